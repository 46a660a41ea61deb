/-
  Layer 12 (pile): what a pile is in memory; where an id stands, and how many they are.
-/
import Derived.Test.YtmanmebgmhpilaaMapEnt
namespace Go.Proofs.Ytmanmebgmhpilaa
open Go.RowKit Go.Maps
set_option linter.unusedVariables false
set_option linter.unusedSimpArgs false

/-! ### rows of items -/
theorem own_setCells {w : World} {base : Nat} {e : TypeId} {size g n cap : Nat} (vs : List Value) : ∀ (o : Nat) {w : World} {xs : List Value}, w.ownsRow base e size (.slice (some ⟨g, 0, none⟩) n cap) n xs → o + vs.length ≤ xs.length → (w.setCells g o vs).ownsRow base e size (.slice (some ⟨g, 0, none⟩) n cap) n (xs.take o ++ vs ++ xs.drop (o + vs.length)) := by
  induction vs with
  | nil => intro o w xs h hl; simpa [World.setCells] using h
  | cons v vs ih =>
    intro o w xs h hl
    simp only [List.length_cons] at hl
    have h1 := ih (o + 1) (h.stored o v).1 (by rw [List.length_set]; omega)
    have e : (xs.set o v).take (o + 1) ++ vs ++ (xs.set o v).drop (o + 1 + vs.length) = xs.take o ++ (v :: vs) ++ xs.drop (o + (v :: vs).length) := by
      simp only [List.length_cons] at hl ⊢
      rw [List.drop_set_of_lt (by omega), List.take_set, List.take_succ_eq_append_getElem (by omega), List.set_append_right _ _ (by simp; omega)]
      simp [Nat.min_eq_left (show o ≤ xs.length by omega)]
      congr 1
      omega
    rw [e] at h1
    exact h1
theorem Only.setCells {b : Nat} (vs : List Value) : ∀ (o : Nat) {u w : World}, Only b u w → Only b u (w.setCells b o vs) := by
  induction vs with
  | nil => intro o u w h; exact h
  | cons v vs ih => intro o u w h; exact ih (o + 1) (h.setCell (.inl rfl) v)
theorem IsObj.there {w : World} {b : Nat} {ty : TypeId} {cs : List Value} (h : IsObj w b ty cs) (o n : Nat) (hn : o + n ≤ cs.length) : w.there b o n := by
  intro j hj
  refine ⟨?_, IsObj.free h _⟩
  rw [IsObj.cell h]
  simp; omega
theorem IsObj.range {w : World} {b : Nat} {ty : TypeId} {cs : List Value} (h : IsObj w b ty cs) : w.rangeAt b 0 cs := fun j v hv => by rw [Nat.zero_add, h.cell j]; exact hv
theorem IsObj.setCells {b : Nat} {ty : TypeId} (vs : List Value) : ∀ (o : Nat) {w : World} {cs : List Value}, IsObj w b ty cs → o + vs.length ≤ cs.length → IsObj (w.setCells b o vs) b ty (cs.take o ++ vs ++ cs.drop (o + vs.length)) := by
  induction vs with
  | nil => intro o w cs h hl; simpa [World.setCells] using h
  | cons v vs ih =>
    intro o w cs h hl
    simp only [List.length_cons] at hl
    have h1 := ih (o + 1) (h.set o v) (by rw [List.length_set]; omega)
    have e : (cs.set o v).take (o + 1) ++ vs ++ (cs.set o v).drop (o + 1 + vs.length) = cs.take o ++ (v :: vs) ++ cs.drop (o + (v :: vs).length) := by
      simp only [List.length_cons] at hl ⊢
      rw [List.drop_set_of_lt (by omega), List.take_set, List.take_succ_eq_append_getElem (by omega), List.set_append_right _ _ (by simp; omega)]
      simp [Nat.min_eq_left (show o ≤ cs.length by omega)]
      congr 1
      omega
    rw [e] at h1
    exact h1
theorem IsObj.setAll {w : World} {b : Nat} {ty : TypeId} {cs xs : List Value} (h : IsObj w b ty cs) (hl : xs.length = cs.length) : IsObj (w.setCells b 0 xs) b ty xs := by
  have k := IsObj.setCells xs 0 h (by omega)
  rw [List.take_zero, List.nil_append, List.drop_eq_nil_of_le (by omega), List.append_nil] at k
  exact k
theorem itF_len (T : List It) : (T.flatMap itCells).length = T.length * 7 := by
  induction T with
  | nil => rfl
  | cons x T ih => rw [List.flatMap_cons, List.length_append, ih, itCells_len, List.length_cons]; omega
theorem itF_take (T : List It) : ∀ k, (T.flatMap itCells).take (k * 7) = (T.take k).flatMap itCells := by
  induction T with
  | nil => intro k; simp
  | cons x T ih =>
    intro k
    cases k with
    | zero => simp
    | succ k =>
      rw [List.flatMap_cons, List.take_succ_cons, List.flatMap_cons, ← ih k, List.take_append, itCells_len, List.take_of_length_le (by rw [itCells_len]; omega)]
      congr 2
      omega
theorem itF_drop (T : List It) : ∀ k, (T.flatMap itCells).drop (k * 7) = (T.drop k).flatMap itCells := by
  induction T with
  | nil => intro k; simp
  | cons x T ih =>
    intro k
    cases k with
    | zero => simp
    | succ k =>
      rw [List.flatMap_cons, List.drop_succ_cons, ← ih k, List.drop_append, itCells_len, List.drop_eq_nil_of_le (by rw [itCells_len]; omega), List.nil_append]
      congr 1
      omega
theorem itF_set (T : List It) (k : Nat) (x : It) (hk : k < T.length) : (T.set k x).flatMap itCells = (T.flatMap itCells).take (k * 7) ++ itCells x ++ (T.flatMap itCells).drop (k * 7 + (itCells x).length) := by
  rw [itF_take, itCells_len, show k * 7 + 7 = (k + 1) * 7 by omega, itF_drop, List.set_eq_take_append_cons_drop, if_pos hk, List.flatMap_append, List.flatMap_cons]
  simp [List.append_assoc]
/-- One item is written into its row. -/
theorem own_setIt {w : World} {base g n cap : Nat} {e : TypeId} {T : List It} (h : w.ownsRow base e 7 (.slice (some ⟨g, 0, none⟩) n cap) n (T.flatMap itCells)) (k : Nat) (x : It) (hk : k < T.length) : (w.setCells g (k * 7) (itCells x)).ownsRow base e 7 (.slice (some ⟨g, 0, none⟩) n cap) n ((T.set k x).flatMap itCells) := by
  rw [itF_set T k x hk]
  exact own_setCells (itCells x) (k * 7) (w := w) h (by rw [itF_len, itCells_len]; omega)
theorem own_range {w : World} {base g n cap : Nat} {e : TypeId} {T : List It} (h : w.ownsRow base e 7 (.slice (some ⟨g, 0, none⟩) n cap) n (T.flatMap itCells)) (k : Nat) (hk : k < T.length) : w.rangeAt g (k * 7) (itCells (nth T k)) := by
  intro j v hv
  have hj : j < 7 := by
    have := (List.getElem?_eq_some_iff.1 hv).1
    rwa [itCells_len] at this
  rw [World.ownsRow.cellAt h (k * 7 + j) (by have h1 := h.1; rw [itF_len] at h1; omega), flat_at itCells 7 itCells_len T k hk j hj]
  exact hv
theorem own_there {w : World} {base g n cap : Nat} {e : TypeId} {T : List It} (h : w.ownsRow base e 7 (.slice (some ⟨g, 0, none⟩) n cap) n (T.flatMap itCells)) (k : Nat) (hk : k < T.length) : w.there g (k * 7) 7 := by
  intro j hj
  refine ⟨?_, World.ownsRow.frozenAt h _⟩
  have hr := own_range h k hk j ((itCells (nth T k))[j]'(by rw [itCells_len]; exact hj)) (by simp)
  rw [hr]
  rfl
theorem own_below {w w' : World} {base : Nat} {e : TypeId} {size n : Nat} {v : Value} {xs : List Value} (h : w.ownsRow base e size v n xs) (hb : Below w.heap.size w w') : w'.ownsRow base e size v n xs := by
  rcases h.2 with ⟨h1, h2⟩ | ⟨g, cap, cur, h1, h2, hg, h3⟩
  · exact ⟨h.1, .inl ⟨h1, h2⟩⟩
  · exact ⟨h.1, .inr ⟨g, cap, cur, h1, h2, (hb.block g (Array.getElem?_eq_some_iff.1 hg).1).trans hg, h3⟩⟩
/-! ### a pile -/
abbrev IdOk (id : Int) : Prop := (Lit.int .i64 id).wf = true
theorem id_key {id : Int} (h : IdOk id) : keyOf Try.prog 3 (.int .i64 id) = some (kL id) := keyOf_int_mk Try.underlying3 h
theorem int_law : Keyed Try.prog 3 := int_keyed Try.underlying3
theorem zero_int (w : World) : (zeroValue 3).run Try.prog w = .ok (.int .i64 0) w := by kernel_rfl
abbrev MapOf (w : World) (M : Nat) (D : Dat) : Prop := w.ownsMap Try.prog 3 (plainElem Try.prog 3) M (Maps.size D) D
/-- A pile's memory: its struct, its map, its row. -/
structure PRaw (w : World) (p M : Nat) (most : Int) (tv : Value) (T : List It) (D : Dat) : Prop where
  o : IsObj w p 58 [.map (some M), .int .i64 most, tv]
  m : MapOf w M D
  t : w.ownsRow (p + 1) 31 7 tv T.length (T.flatMap itCells)
  ord : M < p
  wf : ∀ x ∈ T, IdOk x.id
  len : T.length ≤ 64
/-- Each id stands where the map says; no id stands twice. -/
structure PAt (w : World) (p M : Nat) (most : Int) (tv : Value) (T : List It) : Prop where
  raw : ∃ D, PRaw w p M most tv T D ∧ Idx D T ∧ Maps.size D ≤ T.length
  nd : (T.map It.id).Nodup
/-- Only the pile's own blocks may have changed. -/
structure Frp (p M : Nat) (tv tv' : Value) (w w' : World) : Prop where
  os : w'.os = w.os
  tape : w'.tape = w.tape
  output : w'.output = w.output
  size : w.heap.size ≤ w'.heap.size
  block : ∀ k, k < w.heap.size → k ≠ p → k ≠ M → some k ≠ tv.ownBlock → w'.heap[k]? = w.heap[k]?
  own : tv'.ownBlock = tv.ownBlock ∨ ∀ g, tv'.ownBlock = some g → w.heap.size ≤ g
section
variable {p M : Nat} {tv tv1 tv2 : Value} {u v w : World}
theorem Frp.refl (w : World) : Frp p M tv tv w w := ⟨rfl, rfl, rfl, Nat.le_refl _, fun _ _ _ _ _ => rfl, .inl rfl⟩
theorem Frp.trans (h : Frp p M tv tv1 u v) (k : Frp p M tv1 tv2 v w) : Frp p M tv tv2 u w := by
  refine ⟨k.os.trans h.os, k.tape.trans h.tape, k.output.trans h.output, Nat.le_trans h.size k.size, fun i hi a b c => ?_, ?_⟩
  · refine (k.block i (Nat.lt_of_lt_of_le hi h.size) a b ?_).trans (h.block i hi a b c)
    rcases h.own with e | e
    · rw [e]; exact c
    · intro e2
      have := e i e2.symm
      omega
  · rcases k.own with e | e
    · rw [e]; exact h.own
    · exact .inr fun g hg => Nat.le_trans h.size (e g hg)
theorem Frp.below (h : Below w.heap.size w v) : Frp p M tv tv w v := ⟨h.os, h.tape, h.output, h.size, fun k hk _ _ _ => h.block k hk, .inl rfl⟩
theorem Frp.isObj {w' : World} {b : Nat} {ty : TypeId} {cs : List Value} (f : Frp p M tv tv1 w w') (h : IsObj w b ty cs) (h1 : b ≠ p) (h2 : b ≠ M) (h3 : some b ≠ tv.ownBlock) : IsObj w' b ty cs := (f.block b h.lt h1 h2 h3).trans h
end
theorem PRaw.same {w w' : World} {p M : Nat} {most : Int} {tv : Value} {T : List It} {D : Dat} (h : PRaw w p M most tv T D) (hb : Below w.heap.size w w') : PRaw w' p M most tv T D := by
  refine ⟨IsObj.below h.o hb h.o.lt, ?_, ?_, h.ord, h.wf, h.len⟩
  · exact h.m.kept (row := none) ⟨hb.os, hb.tape, hb.output, hb.size, fun i hi _ => hb.block i hi⟩ (by simp)
  · exact own_below h.t hb
theorem PAt.same {w w' : World} {p M : Nat} {most : Int} {tv : Value} {T : List It} (h : PAt w p M most tv T) (hb : Below w.heap.size w w') : PAt w' p M most tv T := by
  obtain ⟨D, hr, hi⟩ := h.raw
  exact ⟨⟨D, hr.same hb, hi⟩, h.nd⟩
theorem where_any {w : World} {p M : Nat} {most : Int} {tv : Value} {T : List It} {D : Dat} (id : Int) (h : PRaw w p M most tv T D) (hid : IdOk id) : Calls Try.prog 48 #[.pointer (some ⟨p, 0, none⟩), .int .i64 id] w fun e w' => (∃ c, D.atKey (kL id) (vL 0) = vL c ∧ e = .returned (.tuple #[.int .i64 c, .bool (Maps.has D (kL id))])) ∧ w = w' := by
  have c0 : w.cell? ⟨p, 0, none⟩ = some (.map (some M)) := h.o.cell 0
  have HM := Lib.hid h.m
  have hk := id_key hid
  clear h
  go_enter Try.func48, Try.ntmps48
  go_wp2_with (at_lookup; refine wpList_lookup_own_ok_int _ (by rfl) _ _ 54 (by rfl) 3 3 .i64 int_law Try.underlying54 Try.underlying3 (zero_int _) M _ _ (by rfl) HM.out _ _ (by rfl) hk ?_; intro c hat hwc)
  go_returns
  exact ⟨⟨c, hat, rfl⟩, rfl⟩
end Go.Proofs.Ytmanmebgmhpilaa
