/-
  Rows of bytes that a call makes: []byte(s), append of one byte, string(b). And a number's bytes.
-/
import Derived.Test.YtobcjbpgeohbgaaGreatDoorFrame
import Derived.Laws.IdiomStrings
import Derived.Laws.IdiomCopy
import Derived.Laws.OwnMore
namespace Go.Proofs.YtobcjbpgeohbgaaGreatDoor
open Go.RowKit
set_option linter.unusedVariables false

/-! ### Numbers as bytes -/
def byteOf (x : Int) : UInt8 := UInt8.ofNat (x % 256).toNat
theorem byteOf_toNat (x : Int) : ((byteOf x).toNat : Int) = x % 256 := by
  unfold byteOf
  rw [UInt8.toNat_ofNat']
  omega
/-- The last k bytes of a number, the highest one first. -/
def beB (n : Int) : Nat → List UInt8
  | 0 => []
  | k + 1 => beB (n / 256) k ++ [byteOf n]
theorem beB_len (k : Nat) : ∀ n, (beB n k).length = k := by
  induction k with
  | zero => intro n; rfl
  | succ k ih => intro n; simp [beB, ih]
theorem pow_succ256 (k : Nat) : (256 : Int) ^ (k + 1) = 256 * 256 ^ k := by rw [Int.pow_succ, Int.mul_comm]
theorem beB_cons (k : Nat) : ∀ n, beB n (k + 1) = byteOf (n / 256 ^ k) :: beB n k := by
  induction k with
  | zero => intro n; simp [beB]
  | succ k ih =>
    intro n
    rw [beB, ih, beB]
    rw [Int.ediv_ediv_of_nonneg (by decide : (0:Int) ≤ 256), ← pow_succ256]
    rfl
theorem beB_at (w : Nat) : ∀ (n : Int) (i : Nat), i < w → (beB n w)[i]? = some (byteOf (n / 256 ^ (w - 1 - i))) := by
  induction w with
  | zero => intro n i h; omega
  | succ k ih =>
    intro n i h
    rw [beB_cons]
    cases i with
    | zero => simp
    | succ i =>
      have e : k - 1 - i = k + 1 - 1 - (i + 1) := by omega
      rw [List.getElem?_cons_succ, ih n i (by omega), e]
theorem beB_take (w : Nat) (n : Int) (i : Nat) (h : i < w) : (beB n w).take (i + 1) = (beB n w).take i ++ [byteOf (n / 256 ^ (w - 1 - i))] := by
  rw [List.take_add_one, beB_at w n i h]
  rfl

/-! ### A row of bytes of one's own -/
def BRow (w : World) (base : Nat) (e : TypeId) (v : Value) (xs : List UInt8) : Prop :=
  ∃ g cap cur lo hi, v = .slice (some ⟨g, 0, none⟩) xs.length cap ∧ base ≤ g ∧ w.heap[g]? = some (.cells cur e (lo, hi)) ∧ (∀ j, j < cap → (decide (lo ≤ j) && decide (j < hi)) = false) ∧ xs.length ≤ cap ∧ cap ≤ maxLen ∧
    cur.size = cap ∧ ∀ j (h : j < xs.length), cur[j]? = some (.int .u8 (xs[j].toNat : Int))
theorem BRow.drew {w : World} {base : Nat} {e : TypeId} {v : Value} {xs : List UInt8} (h : BRow w base e v xs) : BRow w.drew base e v xs := h
theorem BRow.alloc {w : World} {base : Nat} {e : TypeId} {v : Value} {xs : List UInt8} (h : BRow w base e v xs) (o : Obj) : BRow (w.alloc o) base e v xs := by
  obtain ⟨g, cap, cur, lo, hi, h1, h2, h3, h4⟩ := h
  have hl : g < w.heap.size := (Array.getElem?_eq_some_iff.1 h3).1
  exact ⟨g, cap, cur, lo, hi, h1, h2, by rw [heap_alloc_old w o hl]; exact h3, h4⟩

theorem brow_of_string {w : World} {base : Nat} (e : TypeId) (s : ByteArray) (hs : s.size ≤ maxLen) (hb : base ≤ w.heap.size) :
    BRow (w.drew.alloc (.cells (bytesRow s (grownCap w s.size 0 e)) e ((bytesRow s (grownCap w s.size 0 e)).size, (bytesRow s (grownCap w s.size 0 e)).size + 1))) base e
      (.slice (some ⟨w.heap.size, 0, none⟩) s.size (grownCap w s.size 0 e)) s.data.toList := by
  have hge := grownCap_ge w s.size 0 e
  have hsz : (bytesRow s (grownCap w s.size 0 e)).size = grownCap w s.size 0 e := by
    unfold bytesRow
    have : s.data.size = s.size := rfl
    simp [this]
    omega
  have hl : s.data.toList.length = s.size := by simp
  refine ⟨w.heap.size, grownCap w s.size 0 e, bytesRow s (grownCap w s.size 0 e), _, _, by rw [hl], hb, heap_alloc_new w.drew _, ?_, by rw [hl]; exact hge, grownCap_le_maxLen w s.size 0 e hs, hsz, ?_⟩
  · intro j hj
    rw [hsz]
    have : decide (grownCap w s.size 0 e ≤ j) = false := by simp; omega
    rw [this]; rfl
  · intro j hj
    rw [bytesRow_at s _ j (by simpa using hj)]
    simp

section
variable {P : Program}
theorem brow_cell {w : World} {g cap : Nat} {cur : Array Value} {e : TypeId} {lo hi : Nat} (h : w.heap[g]? = some (.cells cur e (lo, hi))) (j : Nat) : w.cell? ⟨g, j, none⟩ = cur[j]? := by
  simp [World.cell?, h]
theorem brow_free {w : World} {g cap : Nat} {cur : Array Value} {e : TypeId} {lo hi : Nat} (h : w.heap[g]? = some (.cells cur e (lo, hi))) (j : Nat) : w.frozen? ⟨g, j, none⟩ = (decide (lo ≤ j) && decide (j < hi)) := by
  simp [World.frozen?, h]
/-- string(b). -/
theorem brow_string {w : World} {base : Nat} {src dst e : TypeId} {v : Value} {xs : List UInt8} (h : BRow w base e v xs) (hs : P.underlying src = some (.slice e)) (he : P.underlying e = some (.int .u8)) (hd : P.underlying dst = some .string) :
    (convert src dst v).run P w = .ok (.string ⟨xs.toArray⟩) w := by
  obtain ⟨g, cap, cur, lo, hi, rfl, _, hg, _, _, _, _, hx⟩ := h
  refine run_convert_bytes_back (P := P) w src dst e ⟨g, 0, none⟩ cap xs hs he hd ?_
  intro j hj
  rw [addr_add, Nat.zero_add, brow_cell (cap := cap) hg, hx j hj]

/-- append(b, x). -/
theorem brow_append {w : World} {base : Nat} {e : TypeId} {v : Value} {xs : List UInt8} (t ty : TypeId) (i : TypeInfo) (ht : P.underlying t = some (.slice e)) (hi : P.info? e = some i) (hz : i.zero = some (.int .u8 0)) (hsize : i.size = 1) (hby : i.bytes = 1)
    (b : UInt8) (h : BRow w base e v xs) (hn : xs.length < 4294967296) (hbase : base ≤ w.heap.size) :
    ∃ v' w', (Builtin.append_ #[t, t] ty #[v, .slice (some ⟨w.heap.size, 0, none⟩) 1 1]).run P (w.alloc (.cells #[.int .u8 (b.toNat : Int)] e)) = .ok v' w' ∧ BRow w' base e v' (xs ++ [b]) ∧ Below base w w' := by
  have hW := h.alloc (.cells #[.int .u8 (b.toNat : Int)] e)
  have hnew : ∀ j u, [Value.int .u8 (b.toNat : Int)][j]? = some u → (w.alloc (.cells #[.int .u8 (b.toNat : Int)] e)).cell? ((⟨w.heap.size, 0, none⟩ : Addr).add j) = some u := by
    intro j u hu
    rw [addr_add, Nat.zero_add, cell_new]
    simpa using hu
  have h1 : ∀ u ∈ [Value.int .u8 (b.toNat : Int)], u.oneCell' = true := by
    intro u hu
    simp at hu
    subst hu
    rfl
  have hBelow : Below base w (w.alloc (.cells #[.int .u8 (b.toNat : Int)] e)) := (Below.refl _ _).alloc hbase _
  have hsW : (w.alloc (.cells #[.int .u8 (b.toNat : Int)] e)).heap.size = w.heap.size + 1 := by simp
  obtain ⟨W, hWe⟩ : ∃ W, W = w.alloc (.cells #[.int .u8 (b.toNat : Int)] e) := ⟨_, rfl⟩
  rw [← hWe] at hW hnew hBelow hsW ⊢
  clear hWe h
  obtain ⟨g, cap, cur, lo, hi', rfl, hbg, hg, hfr, hnc, hcm, hcs, hx⟩ := hW
  by_cases hroom : xs.length + 1 ≤ cap
  · have hst := run_storeCells_cells (P := P) g xs.length [Value.int .u8 (b.toNat : Int)] 0 W
      (fun j hj => by
        have : j = 0 := by simpa using hj
        subst this
        rw [brow_cell (cap := cap) hg, Array.getElem?_eq_getElem (by omega)]; rfl)
      (fun j hj => by
        have : j = 0 := by simpa using hj
        subst this
        rw [brow_free (cap := cap) hg]
        exact hfr _ (by omega)) h1
    have hf := run_firstCells_some (P := P) W i.size 1 ⟨w.heap.size, 0, none⟩ 1 1 [Value.int .u8 (b.toNat : Int)] (by simp [hsize]) hnew
    simp only [Nat.add_zero] at hst
    refine ⟨.slice (some ⟨g, 0, none⟩) (xs.length + 1) cap, W.setCells g xs.length [Value.int .u8 (b.toNat : Int)], ?_, ?_, ?_⟩
    · rw [hsize] at hf
      simp [Builtin.append_, run_underlying ht, sizeOf, typeInfo, hi, Builtin.lenOf, hroom, hf, Addr.add_lit, hsize, hst]
    · have hset : (W.setCells g xs.length [Value.int .u8 (b.toNat : Int)]).heap[g]? = some (.cells (cur.setIfInBounds xs.length (.int .u8 (b.toNat : Int))) e (lo, hi')) := by
        simp [World.setCells, World.setCell, Array.getElem?_modify, hg]
      refine ⟨g, cap, _, lo, hi', by simp, hbg, hset, hfr, by simp; omega, hcm, by simpa using hcs, ?_⟩
      intro j hj
      simp at hj
      rw [Array.getElem?_setIfInBounds]
      by_cases hje : xs.length = j
      · subst hje
        rw [if_pos rfl, if_pos (by omega)]
        simp
      · rw [if_neg hje, hx j (by omega), List.getElem_append_left (by omega)]
    · exact hBelow.setCell (p := ⟨g, xs.length, none⟩) hbg _
  · have holds : ∀ j u, (xs.map fun x : UInt8 => Value.int .u8 (x.toNat : Int))[j]? = some u → W.cell? ((⟨g, 0, none⟩ : Addr).add j) = some u := by
      intro j u hu
      rw [List.getElem?_map] at hu
      have hj : j < xs.length := by
        by_cases hj : j < xs.length
        · exact hj
        · rw [List.getElem?_eq_none (by omega)] at hu; cases hu
      rw [List.getElem?_eq_getElem hj] at hu
      rw [addr_add, Nat.zero_add, brow_cell (cap := cap) hg, hx j hj]
      simpa using hu
    have hr := run_append_grow (P := P) W t ty e i (.int .u8 0) ht hi hz ⟨g, 0, none⟩ xs.length cap (xs.map fun x : UInt8 => Value.int .u8 (x.toNat : Int)) (by simp [hsize]) holds ⟨w.heap.size, 0, none⟩ 1 1 [Value.int .u8 (b.toNat : Int)] (by simp [hsize]) hnew (by omega) (by omega) (growslice_fits (by omega) (by rw [hby]; omega))
    have hge := grownCap_ge W (xs.length + 1) cap e
    refine ⟨_, _, hr, ⟨W.heap.size, _, _, 0, 0, by simp, by omega, heap_alloc_new W.drew _, ?_, by simpa using hge, grownCap_le_maxLen W (xs.length + 1) cap e (by unfold maxLen; omega), ?_, ?_⟩, hBelow.drew.alloc (by simp; omega) _⟩
    · intro j hj
      simp
    · simp [size_zeroCells, Value.cells]
      omega
    · intro j hj
      simp at hj
      rw [Array.getElem?_append_left (by simp; omega)]
      by_cases hje : j < xs.length
      · rw [Array.getElem?_append_left (by simpa using hje)]
        simp [hje, List.getElem_append_left]
      · obtain rfl : j = xs.length := by omega
        rw [Array.getElem?_append_right (by simp)]
        simp
theorem wpList_append_byte {w : World} {ops : Array Oper} {rest : List Oper} {o : Oper} {a : Act} {Q : Exit → Act → World → Prop} (hgd : o.guard = none) (s x : Operand) (t : TypeId)
    (ho : o.op = .call { callee := .builtin .append, args := #[s, x], argTypes := #[t, t] })
    (base : Nat) (e : TypeId) (i : TypeInfo) (ht : P.underlying t = some (.slice e)) (hi : P.info? e = some i) (hz : i.zero = some (.int .u8 0)) (hsize : i.size = 1) (hby : i.bytes = 1)
    (v : Value) (xs : List UInt8) (b : UInt8) (n : Int) (hs : a.eval s = v) (hx : a.eval x = .slice (some ⟨w.heap.size, 0, none⟩) 1 1) (hnb : n = (b.toNat : Int)) (h : BRow w base e v xs) (hn : xs.length < 4294967296) (hbase : base ≤ w.heap.size)
    (hk : ∀ v' w', BRow w' base e v' (xs ++ [b]) → Below base w w' → wpList P ops Q rest (a.put o.dst v') w') : wpList P ops Q (o :: rest) a (w.alloc (.cells #[.int .u8 n] e)) :=
  wpList_plain hgd fun K hK => by
    subst hnb
    obtain ⟨v', w', hr, h2, h3⟩ := brow_append (P := P) t o.type i ht hi hz hsize hby b h hn hbase
    unfold Oper.wp execOp
    simp only [ho, resolve, invoke, builtin, Sem.run_bind, Sem.run_pure, Result.andThen_ok, List.map_toArray, List.map_cons, List.map_nil, hs, hx, hr]
    exact hK _ _ (hk v' w' h2 h3)
end
end Go.Proofs.YtobcjbpgeohbgaaGreatDoor
