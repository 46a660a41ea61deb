/-
  From a walk to the given statement, once for every law of this seat: a law whose walk returns true and writes nothing that was there meets its row. And what each argument's reading gives: the cells of an argument, flat, by the shape of its type.
-/
import Derived.Test.YtobcjbpgeohbgaaGreatDoorRows
import Derived.WalkKit
import Derived.ProofKit
import Derived.OpenShut
import Derived.ShutString
import Derived.ChangeOld
import Derived.Below
import Derived.Deep.Slices
import Derived.Deep.QuietTactic
import Derived.BigQuiet
import Derived.StillTailTactics
import Derived.Deep.RegionHeld3
import Derived.Deep.LoopGhost
namespace Go.Proofs.YtobcjbpgeohbgaaGreatDoor
open Go.ChangeShapes Go.WideShapes Go.ChangeAt Go.RowKit
open Go.ChangeMaps (open_string shut_string)

theorem ownKnobs : ownKnob Tryz.prog.godebug = none := by kernel_rfl
theorem laidOut : laidOutB Tryz.prog = true := by kernel_rfl

/-! ### What came in -/
/-- A value of type t came in: it fits its type, and it reads as some datum. -/
def Came (P : Program) (W : World) (t : TypeId) (v : Value) : Prop :=
  (∃ base, Value.okWide P W .any base t v) ∧ ∃ (H : Type) (enc : TypeId × Value → H) (d : DataW H) (p : List MemPlace), DataW.Trod enc P W 0 (fun _ => true) true t v d p

def IsI (k : IntKind) (v : Value) : Prop := ∃ n : Int, v = .int k n ∧ (Lit.int k n).wf = true
def IsB (v : Value) : Prop := ∃ b : Bool, v = .bool b
def IsS (v : Value) : Prop := ∃ s : ByteArray, v = .string s ∧ s.size ≤ maxLen
/-- The cells cs fit the shape ps, one predicate a cell. -/
def Fits : List (Value → Prop) → List Value → Prop
  | [], [] => True
  | p :: ps, c :: cs => p c ∧ Fits ps cs
  | _, _ => False
/-- Whatever reads as type t fits the shape ps. -/
def Opens (P : Program) (w : World) (t : TypeId) (ps : List (Value → Prop)) : Prop :=
  ∀ (H : Type) (enc : TypeId × Value → H) (fuel : Nat) (cs : List Value) (x : DataW H × List MemPlace), DataW.trod enc P w 0 (fun _ => true) true fuel t cs = some x → Fits ps cs
/-- A slice that came in: nil, or a row of 'cap' elements, each of the shape ps in k cells. -/
def IsSl (w : World) (k : Nat) (ps : List (Value → Prop)) (v : Value) : Prop :=
  v = .slice none 0 0 ∨ ∃ (a : Addr) (len cap : Nat), v = .slice (some a) len cap ∧ len ≤ cap ∧ cap ≤ maxLen ∧
    ∀ i, i < cap → ∃ cs : List Value, cs.length = k ∧ Fits ps cs ∧ ∀ j, j < k → w.cell? (a.add (i * k + j)) = cs[j]?

theorem fits_cons {p : Value → Prop} {ps : List (Value → Prop)} {l : List Value} (h : Fits (p :: ps) l) : ∃ c l', l = c :: l' ∧ p c ∧ Fits ps l' := by
  cases l with
  | nil => exact absurd h (by simp [Fits])
  | cons c l' => exact ⟨c, l', rfl, h.1, h.2⟩
theorem fits_nil {l : List Value} (h : Fits [] l) : l = [] := by
  cases l with
  | nil => rfl
  | cons c l' => exact absurd h (by simp [Fits])
theorem fits_append {a b : List (Value → Prop)} {l : List Value} (h1 : Fits a (l.take a.length)) (h2 : Fits b (l.drop a.length)) : Fits (a ++ b) l := by
  induction a generalizing l with
  | nil => simpa using h2
  | cons p ps ih =>
    cases l with
    | nil => simp [Fits] at h1
    | cons c l' =>
      simp only [List.length_cons, List.take_succ_cons, List.drop_succ_cons, Fits] at h1 h2
      exact ⟨h1.1, ih h1.2 h2⟩

section
variable {P : Program} {w : World} {t : TypeId}
theorem opens_int {k : IntKind} (ht : P.underlying t = some (.int k)) : Opens P w t [IsI k] := by
  intro H enc fuel cs x h
  obtain ⟨n, rfl, _, hw⟩ := DataW.trod_int ht h
  exact ⟨⟨n, rfl, hw⟩, trivial⟩
theorem opens_bool (ht : P.underlying t = some .bool) : Opens P w t [IsB] := by
  intro H enc fuel cs x h
  obtain ⟨n, rfl, _⟩ := DataW.trod_bool ht h
  exact ⟨⟨n, rfl⟩, trivial⟩
theorem opens_string (ht : P.underlying t = some .string) : Opens P w t [IsS] := by
  intro H enc fuel cs x h
  obtain ⟨n, rfl, _, hw⟩ := DataW.trod_string ht h
  exact ⟨⟨n, rfl, hw⟩, trivial⟩
theorem opens_slice {e : TypeId} {ps : List (Value → Prop)} (ht : P.underlying t = some (.slice e)) (hc : P.cellsOf e = ps.length) (he : Opens P w e ps) : Opens P w t [IsSl w ps.length ps] := by
  intro H enc fuel cs x h
  rcases Deep.open_slice ht h with ⟨rfl, _⟩ | ⟨a, len, cap, m, n, D, Pl, rfl, _, hl, hm, hmm, _, hx⟩
  · exact ⟨.inl rfl, trivial⟩
  · refine ⟨.inr ⟨a, len, cap, rfl, hl, hm, fun i hi => ?_⟩, trivial⟩
    obtain ⟨cs', h1, h2⟩ := hx i (by rw [hmm]; simpa using hi)
    rw [hc] at h1
    obtain ⟨_, hlen, hat⟩ := World.cells?_some h1
    exact ⟨cs', hlen, he H enc n cs' _ h2, fun j hj => by rw [← Deep.add_add]; exact hat j hj⟩

def FieldsAt (P : Program) (w : World) : Nat → List Field → List (List (Value → Prop)) → Prop
  | _, [], [] => True
  | off, f :: fs, s :: ss => f.offset = off ∧ P.cellsOf f.type = s.length ∧ Opens P w f.type s ∧ FieldsAt P w (off + s.length) fs ss
  | _, _, _ => False

theorem fits_fields {H : Type} {enc : TypeId × Value → H} {n : Nat} {cs : List Value} : ∀ (fs : List Field) (ss : List (List (Value → Prop))) (off : Nat), FieldsAt P w off fs ss → cs.length = off + ss.flatten.length →
    (∀ (i : Nat) (f : Field), fs[i]? = some f → ∃ x, DataW.trod enc P w 0 (fun _ => true) true n f.type ((cs.drop f.offset).take (P.cellsOf f.type)) = some x) → Fits ss.flatten (cs.drop off) := by
  intro fs
  induction fs with
  | nil =>
    intro ss off hf hl _
    cases ss with
    | nil =>
      simp at hl
      rw [List.flatten_nil, List.drop_of_length_le (by omega)]
      trivial
    | cons s ss => exact absurd hf (by simp [FieldsAt])
  | cons f fs ih =>
    intro ss off hf hl hx
    cases ss with
    | nil => exact absurd hf (by simp [FieldsAt])
    | cons s ss =>
      obtain ⟨ho, hk, hop, hrest⟩ := hf
      obtain ⟨x, h0⟩ := hx 0 f rfl
      rw [List.flatten_cons]
      refine fits_append ?_ ?_
      · have := hop H enc n _ x h0
        rwa [ho, hk] at this
      · rw [List.drop_drop]
        refine ih ss (off + s.length) hrest (by rw [hl]; simp; omega) fun i f' hf' => hx (i + 1) f' (by simpa using hf')

theorem opens_struct {fs : Array Field} {ss : List (List (Value → Prop))} (ht : P.underlying t = some (.struct fs)) (hc : P.cellsOf t = ss.flatten.length) (hf : FieldsAt P w 0 fs.toList ss) : Opens P w t ss.flatten := by
  intro H enc fuel cs x h
  obtain ⟨xs, n, _, _, hlen, hxl, hat⟩ := DataW.trod_struct ht h
  have := fits_fields (P := P) (w := w) (enc := enc) (n := n) (cs := cs) fs.toList ss 0 hf (by rw [hlen, hc]; omega) (fun i f hi => by
    have hi' : fs[i]? = some f := by simpa using hi
    have hlt : i < xs.length := by rw [hxl]; exact (Array.getElem?_eq_some_iff.1 hi').1
    exact ⟨xs[i], by rw [hat i f hi', List.getElem?_eq_getElem hlt]⟩)
  simpa using this

theorem fits_rep {H : Type} {enc : TypeId × Value → H} {m : Nat} {e : TypeId} {s : List (Value → Prop)} (hop : Opens P w e s) (_hs : P.cellsOf e = s.length) : ∀ (n : Nat) (cs : List Value), cs.length = n * s.length →
    (∀ i, i < n → ∃ x, DataW.trod enc P w 0 (fun _ => true) true m e ((cs.drop (i * s.length)).take s.length) = some x) → Fits (List.replicate n s).flatten cs := by
  intro n
  induction n with
  | zero =>
    intro cs hl _
    have : cs = [] := List.eq_nil_of_length_eq_zero (by simpa using hl)
    subst this
    trivial
  | succ n ih =>
    intro cs hl hx
    rw [List.replicate_succ, List.flatten_cons]
    refine fits_append ?_ ?_
    · obtain ⟨x, h0⟩ := hx 0 (by omega)
      simpa using hop H enc m _ x h0
    · refine ih _ (by rw [List.length_drop, hl, Nat.succ_mul]; omega) fun i hi => ?_
      obtain ⟨x, h0⟩ := hx (i + 1) (by omega)
      refine ⟨x, ?_⟩
      rw [List.drop_drop, show s.length + i * s.length = (i + 1) * s.length by rw [Nat.succ_mul]; omega]
      exact h0

theorem opens_array {n : Nat} {e : TypeId} {s : List (Value → Prop)} (ht : P.underlying t = some (.array n e)) (hs : P.cellsOf e = s.length) (hc : P.cellsOf t = n * s.length) (hop : Opens P w e s) : Opens P w t (List.replicate n s).flatten := by
  intro H enc fuel cs x h
  obtain ⟨xs, m, _, _, hlen, hxl, hat⟩ := DataW.trod_array ht h
  refine fits_rep (enc := enc) (m := m) hop hs n cs (by rw [hlen, hc]) fun i hi => ?_
  have := hat i hi
  rw [hs] at this
  exact ⟨xs[i]'(by omega), by rw [this, List.getElem?_eq_getElem (by omega)]⟩

theorem came_int {k : IntKind} {v : Value} (ht : P.underlying t = some (.int k)) (h : Came P w t v) : ∃ n : Int, v = .int k n ∧ (Lit.int k n).wf = true := by
  obtain ⟨⟨base, hv⟩, H, enc, d, p, fuel, hf⟩ := h
  obtain ⟨n, rfl⟩ := okWide_int ht hv
  obtain ⟨n', e, _, hw⟩ := DataW.trod_int ht hf
  simp [Value.cells] at e
  exact ⟨n, rfl, by rw [e]; exact hw⟩
theorem came_bool {v : Value} (ht : P.underlying t = some .bool) (h : Came P w t v) : ∃ b : Bool, v = .bool b := by
  obtain ⟨⟨base, hv⟩, _⟩ := h
  exact okWide_bool ht hv
theorem came_string {v : Value} (ht : P.underlying t = some .string) (h : Came P w t v) : ∃ s : ByteArray, v = .string s ∧ s.size ≤ maxLen := by
  obtain ⟨⟨base, hv⟩, H, enc, d, p, fuel, hf⟩ := h
  obtain ⟨s, rfl⟩ := okWide_string ht hv
  obtain ⟨s', e, _, hw⟩ := DataW.trod_string ht hf
  simp [Value.cells] at e
  exact ⟨s, rfl, by rw [e]; exact hw⟩
theorem came_slice {e : TypeId} {v : Value} {ps : List (Value → Prop)} (ht : P.underlying t = some (.slice e)) (hc : P.cellsOf e = ps.length) (he : Opens P w e ps) (h : Came P w t v) : IsSl w ps.length ps v := by
  obtain ⟨⟨base, hv⟩, H, enc, d, p, fuel, hf⟩ := h
  obtain ⟨a, len, cap, rfl⟩ := okWide_slice ht hv
  exact (opens_slice ht hc he H enc fuel _ _ hf).1
theorem came_struct {fs : Array Field} {v : Value} {ps : List (Value → Prop)} (ht : P.underlying t = some (.struct fs)) (ho : Opens P w t ps) (h : Came P w t v) : ∃ l : List Value, v = .agg l.toArray ∧ Fits ps l := by
  obtain ⟨⟨base, hv⟩, H, enc, d, p, fuel, hf⟩ := h
  obtain ⟨cs, rfl, _⟩ := okWide_struct ht hv
  exact ⟨cs.toList, by simp, by simpa [Value.cells] using ho H enc fuel _ _ hf⟩
theorem came_array {n : Nat} {e : TypeId} {v : Value} {ps : List (Value → Prop)} (ht : P.underlying t = some (.array n e)) (ho : Opens P w t ps) (h : Came P w t v) : ∃ l : List Value, v = .agg l.toArray ∧ Fits ps l := by
  obtain ⟨⟨base, hv⟩, H, enc, d, p, fuel, hf⟩ := h
  simp only [Value.okWide, ht] at hv
  obtain ⟨cs, rfl, _⟩ := hv
  exact ⟨cs.toList, by simp, by simpa [Value.cells] using ho H enc fuel _ _ hf⟩
end

theorem addr_add (b off i : Nat) : Addr.add ⟨b, off, none⟩ i = ⟨b, off + i, none⟩ := by
  unfold Addr.add
  by_cases h : i = 0 <;> simp [h]

/-- Element i of a list (a name of our own, so that the walk does not spell it otherwise). -/
def nth {α : Type} [Inhabited α] (l : List α) (i : Nat) : α := l.getD i default
theorem nth_lt {α : Type} [Inhabited α] (l : List α) (i : Nat) (h : i < l.length) : nth l i = l[i] := by simp [nth, List.getD, h]
theorem take_nth {α : Type} [Inhabited α] (l : List α) (k : Nat) (h : k < l.length) : l.take (k + 1) = l.take k ++ [nth l k] := by
  rw [List.take_succ_eq_append_getElem h, nth_lt l k h]
theorem nth_take {α : Type} [Inhabited α] (l : List α) (k i : Nat) (h : i < k) : nth (l.take k) i = nth l i := by simp [nth, List.getD, h]
theorem nth_range {α : Type} [Inhabited α] (n : Nat) (f : Nat → α) (i : Nat) (h : i < n) : nth ((List.range n).map f) i = f i := by simp [nth, List.getD, h]

theorem cell_lt {w : World} {a : Addr} {v : Value} (h : w.cell? a = some v) : a.block < w.heap.size := by
  unfold World.cell? at h
  rcases Nat.lt_or_ge a.block w.heap.size with h' | h'
  · exact h'
  · rw [Array.getElem?_eq_none h'] at h
    cases h

/-- A slice value that reads as the list l of ints: its row lies in memory (or it has no elements). -/
def IntsAt (w : World) (a : Option Addr) (l : List Int) : Prop :=
  l = [] ∨ ∃ b off, a = some ⟨b, off, none⟩ ∧ ∀ i, i < l.length → w.cell? ⟨b, off + i, none⟩ = some (.int .i64 (nth l i))
def Ints (w : World) (v : Value) (l : List Int) : Prop :=
  ∃ a c, v = .slice a l.length c ∧ l.length ≤ c ∧ c ≤ 9223372036854775807 ∧ IntsAt w a l

theorem IntsAt.below {w w' : World} {a : Option Addr} {l : List Int} {B : Nat} (h : IntsAt w a l) (hb : Below B w w') (hB : ∀ x, a = some x → x.block < B) : IntsAt w' a l := by
  rcases h with h | ⟨b, off, rfl, hc⟩
  · exact .inl h
  · exact .inr ⟨b, off, rfl, fun i hi => by rw [hb.cell (p := ⟨b, off + i, none⟩) (hB ⟨b, off, none⟩ rfl)]; exact hc i hi⟩
theorem IntsAt.same {w w' : World} {a : Option Addr} {l : List Int} (h : IntsAt w a l) (hb : Below w.heap.size w w') : IntsAt w' a l := by
  rcases h with h | ⟨b, off, rfl, hc⟩
  · exact .inl h
  · exact .inr ⟨b, off, rfl, fun i hi => by rw [hb.cell (p := ⟨b, off + i, none⟩) (cell_lt (hc i hi))]; exact hc i hi⟩
theorem Ints.same {w w' : World} {v : Value} {l : List Int} (h : Ints w v l) (hb : Below w.heap.size w w') : Ints w' v l := by
  obtain ⟨a, c, h1, h2, h3, h4⟩ := h
  exact ⟨a, c, h1, h2, h3, h4.same hb⟩
theorem IntsAt.drewN {w : World} {a : Option Addr} {l : List Int} (h : IntsAt w a l) (n : Nat) : IntsAt (w.drewN n) a l := h
theorem Ints.drewN {w : World} {v : Value} {l : List Int} (h : Ints w v l) (n : Nat) : Ints (w.drewN n) v l := h
theorem below_drewN {B : Nat} {a w : World} (h : Below B a w) (n : Nat) : Below B a (w.drewN n) := ⟨h.os, h.tape, h.output, h.size, h.block⟩

theorem ints_of_sl {w : World} {v : Value} (h : IsSl w 1 [IsI .i64] v) : ∃ l : List Int, Ints w v l := by
  rcases h with rfl | ⟨a, len, cap, rfl, hl, hm, hx⟩
  · exact ⟨[], none, 0, rfl, by simp, by simp, .inl rfl⟩
  · unfold maxLen at hm
    by_cases h0 : len = 0
    · subst h0
      exact ⟨[], _, cap, rfl, by simp, by omega, .inl rfl⟩
    · obtain ⟨b, off, sp⟩ := a
      have hs : sp = none := by
        obtain ⟨cs, hlen, hf, hc⟩ := hx 0 (by omega)
        obtain ⟨c, l', rfl, hp, _⟩ := fits_cons hf
        simpa [Addr.add] using World.cell?_spot (hc 0 (by omega))
      subst hs
      have key : ∀ i, i < cap → ∃ n : Int, w.cell? ⟨b, off + i, none⟩ = some (.int .i64 n) := by
        intro i hi
        obtain ⟨cs, hlen, hf, hc⟩ := hx i hi
        obtain ⟨c, l', rfl, ⟨n, rfl, _⟩, _⟩ := fits_cons hf
        exact ⟨n, by simpa [addr_add] using hc 0 (by omega)⟩
      obtain ⟨f, hf⟩ := Deep.choose_lt key
      refine ⟨(List.range len).map f, some ⟨b, off, none⟩, cap, by simp, by simpa using hl, by omega, .inr ⟨b, off, rfl, fun i hi => ?_⟩⟩
      simp at hi
      rw [hf i (by omega), nth_range _ _ _ hi]

theorem cell_new (w : World) (cs : Array Value) (e : TypeId) (j : Nat) : (w.alloc (.cells cs e)).cell? ⟨w.heap.size, j, none⟩ = cs[j]? := by
  have hg : (w.alloc (.cells cs e)).heap[w.heap.size]? = some (.cells cs e (0, 0)) := heap_alloc_new w _
  simp only [World.cell?, hg]
  rfl
theorem intsAt_new (w : World) (e : TypeId) (l : List Int) : IntsAt (w.alloc (.cells (l.map (Value.int .i64)).toArray e)) (some ⟨w.heap.size, 0, none⟩) l := by
  refine .inr ⟨_, 0, rfl, fun i hi => ?_⟩
  rw [Nat.zero_add, cell_new]
  simp [nth_lt l i hi]
theorem cell_keep {W W1 : World} {p : Addr} {v : Value} (hb : Below W.heap.size W W1) (h : W.cell? p = some v) : W1.cell? p = some v := (hb.cell (cell_lt h)).trans h
/-- The same for a list of ints of any kind, each fitting its kind. -/
def KInts (k : IntKind) (w : World) (v : Value) (l : List Int) : Prop :=
  ∃ a c, v = .slice a l.length c ∧ l.length ≤ c ∧ c ≤ 9223372036854775807 ∧ (∀ i, i < l.length → (Lit.int k (nth l i)).wf = true) ∧
    (l = [] ∨ ∃ b off, a = some ⟨b, off, none⟩ ∧ ∀ i, i < l.length → w.cell? ⟨b, off + i, none⟩ = some (.int k (nth l i)))
theorem kints_of_sl {k : IntKind} {w : World} {v : Value} (h : IsSl w 1 [IsI k] v) : ∃ l : List Int, KInts k w v l := by
  rcases h with rfl | ⟨a, len, cap, rfl, hl, hm, hx⟩
  · exact ⟨[], none, 0, rfl, by simp, by simp, fun i hi => by simp at hi, .inl rfl⟩
  · unfold maxLen at hm
    by_cases h0 : len = 0
    · subst h0
      exact ⟨[], _, cap, rfl, by simp, by omega, fun i hi => by simp at hi, .inl rfl⟩
    · obtain ⟨b, off, sp⟩ := a
      have hs : sp = none := by
        obtain ⟨cs, hlen, hf, hc⟩ := hx 0 (by omega)
        obtain ⟨c, l', rfl, hp, _⟩ := fits_cons hf
        simpa [Addr.add] using World.cell?_spot (hc 0 (by omega))
      subst hs
      have key : ∀ i, i < cap → ∃ n : Int, w.cell? ⟨b, off + i, none⟩ = some (.int k n) ∧ (Lit.int k n).wf = true := by
        intro i hi
        obtain ⟨cs, hlen, hf, hc⟩ := hx i hi
        obtain ⟨c, l', rfl, ⟨n, rfl, hw⟩, _⟩ := fits_cons hf
        exact ⟨n, by simpa [addr_add] using hc 0 (by omega), hw⟩
      obtain ⟨f, hf⟩ := Deep.choose_lt key
      refine ⟨(List.range len).map f, some ⟨b, off, none⟩, cap, by simp, by simpa using hl, by omega, fun i hi => ?_, .inr ⟨b, off, rfl, fun i hi => ?_⟩⟩
      · simp at hi
        rw [nth_range _ _ _ hi]
        exact (hf i (by omega)).2
      · simp at hi
        rw [(hf i (by omega)).1, nth_range _ _ _ hi]

/-- A row of records: element i of the list lies in k cells from off + i * k on. -/
def RowOf {α : Type} [Inhabited α] (cells : α → List Value) (k : Nat) (w : World) (a : Option Addr) (l : List α) : Prop :=
  l = [] ∨ ∃ b off, a = some ⟨b, off, none⟩ ∧ ∀ i, i < l.length → ∀ j, j < k → w.cell? ⟨b, off + i * k + j, none⟩ = (cells (nth l i))[j]?
theorem RowOf.same {α : Type} [Inhabited α] {cells : α → List Value} {k : Nat} {w w' : World} {a : Option Addr} {l : List α} (h : RowOf cells k w a l) (hk : ∀ x : α, (cells x).length = k) (hb : Below w.heap.size w w') : RowOf cells k w' a l := by
  rcases h with h | ⟨b, off, rfl, hc⟩
  · exact .inl h
  · refine .inr ⟨b, off, rfl, fun i hi j hj => ?_⟩
    have h1 := hc i hi j hj
    rw [List.getElem?_eq_getElem (by rw [hk]; exact hj)] at h1 ⊢
    rw [hb.cell (p := ⟨b, off + i * k + j, none⟩) (cell_lt (w := w) h1)]
    exact h1
theorem row_of_sl {α : Type} [Inhabited α] {cells : α → List Value} {k : Nat} {w : World} {v : Value} {ps : List (Value → Prop)} (ok : α → Prop) (hk : 0 < k) (hmk : ∀ cs, Fits ps cs → ∃ x : α, cs = cells x ∧ ok x) (h : IsSl w k ps v) :
    ∃ (a : Option Addr) (c : Nat) (l : List α), v = .slice a l.length c ∧ l.length ≤ c ∧ c ≤ 9223372036854775807 ∧ (∀ i, i < l.length → ok (nth l i)) ∧ RowOf cells k w a l := by
  rcases h with rfl | ⟨a, len, cap, rfl, hl, hm, hx⟩
  · exact ⟨none, 0, [], rfl, by simp, by simp, fun i hi => by simp at hi, .inl rfl⟩
  · unfold maxLen at hm
    by_cases h0 : len = 0
    · subst h0
      exact ⟨_, cap, [], rfl, by simp, by omega, fun i hi => by simp at hi, .inl rfl⟩
    · obtain ⟨b, off, sp⟩ := a
      have hs : sp = none := by
        obtain ⟨cs, hlen, hf, hc⟩ := hx 0 (by omega)
        have h1 := hc 0 hk
        rw [List.getElem?_eq_getElem (by omega)] at h1
        simpa [Addr.add] using World.cell?_spot h1
      subst hs
      have key : ∀ i, i < cap → ∃ x : α, ok x ∧ ∀ j, j < k → w.cell? ⟨b, off + i * k + j, none⟩ = (cells x)[j]? := by
        intro i hi
        obtain ⟨cs, hlen, hf, hc⟩ := hx i hi
        obtain ⟨x, rfl, hok⟩ := hmk cs hf
        exact ⟨x, hok, fun j hj => by have := hc j hj; rwa [addr_add, ← Nat.add_assoc] at this⟩
      obtain ⟨f, hf⟩ := Deep.choose_lt key
      refine ⟨some ⟨b, off, none⟩, cap, (List.range len).map f, by simp, by simpa using hl, by omega, fun i hi => ?_, .inr ⟨b, off, rfl, fun i hi j hj => ?_⟩⟩
      · simp at hi
        rw [nth_range _ _ _ hi]
        exact (hf i (by omega)).1
      · simp at hi
        rw [(hf i (by omega)).2 j hj, nth_range _ _ _ hi]

/-! ### Only one block has changed -/
abbrev Only (b : Nat) (w w' : World) : Prop := w.grownBy w' (some b)
theorem Only.refl (b : Nat) (w : World) : Only b w w := World.grownBy.refl w _
theorem Only.trans {b : Nat} {u v w : World} (h : Only b u v) (k : Only b v w) : Only b u w :=
  ⟨k.os.trans h.os, k.tape.trans h.tape, k.output.trans h.output, Nat.le_trans h.size k.size, fun i hi hne => (k.block i (Nat.lt_of_lt_of_le hi h.size) hne).trans (h.block i hi hne)⟩
theorem Only.drew {b : Nat} {u w : World} (h : Only b u w) : Only b u w.drew := ⟨h.os, h.tape, h.output, h.size, h.block⟩
theorem Only.drewN {b : Nat} {u w : World} (h : Only b u w) (n : Nat) : Only b u (w.drewN n) := ⟨h.os, h.tape, h.output, h.size, h.block⟩
theorem Only.alloc {b : Nat} {u w : World} (h : Only b u w) (o : Obj) : Only b u (w.alloc o) :=
  ⟨h.os, h.tape, h.output, Nat.le_trans h.size (by simp), fun i hi hne => (Below.heap_alloc w o i (Nat.lt_of_lt_of_le hi h.size)).trans (h.block i hi hne)⟩
theorem Only.setCell {b : Nat} {u w : World} (h : Only b u w) {p : Addr} (hp : p.block = b ∨ u.heap.size ≤ p.block) (v : Value) : Only b u (w.setCell p v) :=
  ⟨h.os, h.tape, h.output, by simpa [World.setCell] using h.size, fun i hi hne => (Below.heap_setCell w p v i (by
    rintro rfl
    rcases hp with hp | hp
    · exact hne (by rw [hp])
    · omega)).trans (h.block i hi hne)⟩
theorem Only.of_below {b : Nat} {u w : World} (h : Below u.heap.size u w) : Only b u w := ⟨h.os, h.tape, h.output, h.size, fun i hi _ => h.block i hi⟩
theorem Only.below {b B : Nat} {u w : World} (h : Only b u w) (hb : B ≤ b) (hB : B ≤ u.heap.size) : Below B u w :=
  ⟨h.os, h.tape, h.output, h.size, fun i hi => h.block i (by omega) (by simp; omega)⟩
theorem Only.cell {b : Nat} {u w : World} (h : Only b u w) {p : Addr} (hp : p.block < u.heap.size) (hne : p.block ≠ b) : w.cell? p = u.cell? p :=
  World.cell?_of_block (w := u) (h.block p.block hp (by simpa using hne))
theorem Only.keep {b : Nat} {u w : World} (h : Only b u w) {p : Addr} {v : Value} (hc : u.cell? p = some v) (hne : p.block ≠ b) : w.cell? p = some v := (h.cell (cell_lt hc) hne).trans hc

/-- Block b is one object: its cells. -/
def IsObj (w : World) (b : Nat) (ty : TypeId) (cs : List Value) : Prop := w.heap[b]? = some (.cells cs.toArray ty (0, 0))
theorem IsObj.lt {w : World} {b : Nat} {ty : TypeId} {cs : List Value} (h : IsObj w b ty cs) : b < w.heap.size := (Array.getElem?_eq_some_iff.1 h).1
theorem IsObj.cell {w : World} {b : Nat} {ty : TypeId} {cs : List Value} (h : IsObj w b ty cs) (j : Nat) : w.cell? ⟨b, j, none⟩ = cs[j]? := by
  unfold IsObj at h
  simp [World.cell?, h]
theorem IsObj.free {w : World} {b : Nat} {ty : TypeId} {cs : List Value} (h : IsObj w b ty cs) (j : Nat) : w.frozen? ⟨b, j, none⟩ = false := by
  unfold IsObj at h
  simp [World.frozen?, h]
theorem IsObj.drew {w : World} {b : Nat} {ty : TypeId} {cs : List Value} (h : IsObj w b ty cs) : IsObj w.drew b ty cs := h
theorem IsObj.drewN {w : World} {b : Nat} {ty : TypeId} {cs : List Value} (h : IsObj w b ty cs) (n : Nat) : IsObj (w.drewN n) b ty cs := h
theorem IsObj.set {w : World} {b : Nat} {ty : TypeId} {cs : List Value} (h : IsObj w b ty cs) (j : Nat) (v : Value) : IsObj (w.setCell ⟨b, j, none⟩ v) b ty (cs.set j v) := by
  unfold IsObj at *
  simp [World.setCell, Array.getElem?_modify, h]
theorem IsObj.new (w : World) (ty : TypeId) (cs : List Value) : IsObj (w.alloc (.cells cs.toArray ty)) w.heap.size ty cs := heap_alloc_new w _
theorem IsObj.below {w w' : World} {b B : Nat} {ty : TypeId} {cs : List Value} (h : IsObj w b ty cs) (hb : Below B w w') (hB : b < B) : IsObj w' b ty cs := (hb.block b hB).trans h
theorem IsObj.only {w w' : World} {b c : Nat} {ty : TypeId} {cs : List Value} (h : IsObj w b ty cs) (ho : Only c w w') (hne : b ≠ c) : IsObj w' b ty cs := (ho.block b h.lt (by simpa using hne)).trans h
theorem IsObj.setOther {w : World} {b : Nat} {ty : TypeId} {cs : List Value} (h : IsObj w b ty cs) (p : Addr) (v : Value) (hne : b ≠ p.block) : IsObj (w.setCell p v) b ty cs := (Below.heap_setCell w p v b hne).trans h
theorem IsObj.alloc {w : World} {b : Nat} {ty : TypeId} {cs : List Value} (h : IsObj w b ty cs) (o : Obj) : IsObj (w.alloc o) b ty cs := (Below.heap_alloc w o b h.lt).trans h

/-! ### A world with more in it: below the old heap's size all is as it was -/
structure Later (w : World) where
  to : World
  below : Below w.heap.size w to
def ext (w : World) (u : Later w) : World := u.to
instance (w : World) : Nonempty (Later w) := ⟨⟨w, Below.refl _ _⟩⟩
theorem ext_of {w w' : World} (h : Below w.heap.size w w') : ∃ u : Later w, w' = ext w u := ⟨⟨w', h⟩, rfl⟩
@[go_sem] theorem cell_ext {w : World} {u : Later w} {n i : Nat} (h : n < w.heap.size) : (ext w u).cell? ⟨n, i, none⟩ = w.cell? ⟨n, i, none⟩ := u.below.cell (p := ⟨n, i, none⟩) h
@[go_sem] theorem frozen_ext {w : World} {u : Later w} {n i : Nat} (h : n < w.heap.size) : (ext w u).frozen? ⟨n, i, none⟩ = w.frozen? ⟨n, i, none⟩ := u.below.frozen (p := ⟨n, i, none⟩) h
theorem below_ext {B : Nat} {a w : World} (u : Later w) (h : Below B a w) (hB : B ≤ w.heap.size) : Below B a (ext w u) := h.trans (u.below.mono hB)
theorem ext_size {w : World} (u : Later w) : w.heap.size ≤ (ext w u).heap.size := u.below.size
def Later.thn {w : World} (u : Later w) (v : Later (ext w u)) : Later w := ⟨v.to, u.below.trans (v.below.mono u.below.size)⟩
@[go_sem] theorem ext_ext {w : World} (u : Later w) (v : Later (ext w u)) : ext (ext w u) v = ext w (u.thn v) := rfl
def Later.drawn {w : World} (u : Later w) : Later w := ⟨u.to.drew, u.below.drew⟩
@[go_sem] theorem ext_drew {w : World} (u : Later w) : (ext w u).drew = ext w u.drawn := rfl
/-- A call that makes memory, at most: in a region that draws its order. -/
theorem ext_same {P : Program} {f : FuncId} {args : Array Value} {w : World} {u : Later w} {v : Value} (h : Calls P f args (ext w u) fun e w' => e = .returned v ∧ ext w u = w') :
    Calls P f args (ext w u) fun e w'' => e = .returned v ∧ ∃ u', w'' = ext w u' := h.mono fun _ _ ⟨he, hm⟩ => ⟨he, u, hm.symm⟩
theorem ext_below {P : Program} {f : FuncId} {args : Array Value} {w : World} {u : Later w} {v : Value} (h : Calls P f args (ext w u) fun e w' => e = .returned v ∧ Below (ext w u).heap.size (ext w u) w') :
    Calls P f args (ext w u) fun e w'' => e = .returned v ∧ ∃ u', w'' = ext w u' := h.mono fun _ _ ⟨he, hm⟩ => ⟨he, ext_of (u.below.trans (hm.mono u.below.size))⟩
theorem region_ext {P : Program} {id : Nat} {Q : Exit → Act → World → Prop} {a : Act} {w : World} {l : List Oper} (hm : P.follows .mixedOrders = true) (hB : Region.lexB .any l.toArray = true)
    (h : wpQuiet P l.toArray (fun w' => ∃ u, w' = ext w u) (fun a' => ∀ w', (∃ u, w' = ext w u) → Q .normal a' w') l a) : (Code.region id l.toArray true).wp P Q a w :=
  wp_region_quiet (C := fun w' => ∃ u, w' = ext w u) hm hB ⟨⟨w.drew, (Below.refl _ _).drew⟩, rfl⟩ (by simpa using h)

theorem region_ext2 {P : Program} {id : Nat} {Q : Exit → Act → World → Prop} {a : Act} {w : World} {u0 : Later w} {l : List Oper} (hm : P.follows .mixedOrders = true) (hB : Region.lexB .any l.toArray = true)
    (h : wpQuiet P l.toArray (fun w' => ∃ u, w' = ext w u) (fun a' => ∀ w', (∃ u, w' = ext w u) → Q .normal a' w') l a) : (Code.region id l.toArray true).wp P Q a (ext w u0) :=
  wp_region_quiet (C := fun w' => ∃ u, w' = ext w u) hm hB ⟨u0.drawn, rfl⟩ (by simpa using h)

/-! ### A slice that the call itself makes, element by element -/
/-- 'out = append(out, x)', out nil or made so: x lies in a new block of its own. -/
theorem wpList_append_one {P : Program} {w : World} {ops : Array Oper} {rest : List Oper} {o : Oper} {a : Act} {Q : Exit → Act → World → Prop} (hgd : o.guard = none) (s x : Operand) (t : TypeId)
    (ho : o.op = .call { callee := .builtin .append, args := #[s, x], argTypes := #[t, t] })
    (base : Nat) (e : TypeId) (i : TypeInfo) (z : Value) (size bytes : Nat) (ht : P.underlying t = some (.slice e)) (hi : P.info? e = some i) (hz : i.zero = some z)
    (hsize : i.size = size) (hby : i.bytes = bytes) (hzs : z.cells.size = size) (hsz : 0 < size)
    (v : Value) (n : Nat) (xs : List Value) (cs : Array Value) (hs : a.eval s = v) (hown : w.ownsRow base e size v n xs)
    (hx : a.eval x = .slice (some ⟨w.heap.size, 0, none⟩) 1 1) (hcs : cs.size = size) (h1 : cs.toList.all (fun u => u.oneCell') = true)
    (hn : n < 4294967296) (hb : bytes ≤ 16384) (hbase : base ≤ w.heap.size)
    (h : ∀ v' w', w'.ownsRow base e size v' (n + 1) (xs ++ cs.toList) → Below base w w' → wpList P ops Q rest (a.put o.dst v') w') : wpList P ops Q (o :: rest) a (w.alloc (.cells cs e)) := by
  refine wpList_append_own _ hgd s x t ho base e i z size bytes ht hi hz hsize hby hzs hsz v n xs hs (hown.alloc _) ⟨w.heap.size, 0, none⟩ 1 1 cs.toList hx (by simp [hcs]) ?_ ?_ ?_ ?_ ?_ ?_
  · intro j u hu
    have hj : j < cs.size := by
      have := List.getElem?_eq_some_iff.1 hu
      simpa using this.1
    rw [addr_add]
    have hg : (w.alloc (.cells cs e)).heap[w.heap.size]? = some (.cells cs e (0, 0)) := heap_alloc_new w _
    simp only [World.cell?, hg, Nat.zero_add]
    simpa using hu
  · intro u hu
    exact List.all_eq_true.1 h1 u hu
  · unfold maxLen; omega
  · have : (n + 1) * bytes ≤ 4294967296 * 16384 := Nat.mul_le_mul (by omega) hb
    omega
  · simp; omega
  · intro v' w' hown' hg _
    refine h v' w' hown' ?_
    refine Below.grown ((Below.refl base w).alloc hbase _) hg (by simp; omega) ?_
    intro k hk
    exact (World.ownsRow.lt hown k hk).1

theorem ints_of_own {w : World} {base n : Nat} {e : TypeId} {v : Value} {l : List Int} (h : w.ownsRow base e 1 v n (l.map (Value.int .i64))) : Ints w v l := by
  have hn : n = l.length := by simpa using h.1.symm
  subst hn
  rcases h.2 with ⟨rfl, h0⟩ | ⟨g, cap, cur, rfl, hb, hg, hnc, hcm, hcs, htake⟩
  · exact ⟨none, 0, by rw [h0], by omega, by omega, .inl (List.eq_nil_of_length_eq_zero h0)⟩
  · refine ⟨_, cap, rfl, hnc, hcm, .inr ⟨g, 0, rfl, fun i hi => ?_⟩⟩
    have := World.ownsRow.cellAt h i (by omega)
    rw [Nat.zero_add, this, List.getElem?_map, List.getElem?_eq_getElem hi]
    simp [nth_lt l i hi]

/-! ### Calls that leave the world alone, in a region that draws its order -/
theorem still_left {P : Program} {f : FuncId} {args : Array Value} {w : World} {v : Value} (h : Calls P f args w fun e w' => e = .returned v ∧ w = w') :
    Calls P f args w fun e w'' => e = .returned v ∧ w'' = w := h.mono fun _ _ ⟨he, hm⟩ => ⟨he, hm.symm⟩
/-- A region that draws its order: n quiet operations, then a chain. -/
theorem region_tail {P : Program} {id : Nat} {Q : Exit → Act → World → Prop} {a : Act} {w : World} {l : List Oper} (n : Nat) (hm : P.follows .mixedOrders = true) (hB : Region.lexTailB .any l.toArray n = true)
    (h : wpStill P l.toArray w.drew (fun a' => wpList P l.toArray Q (l.drop n) a' w.drew) (l.take n) a) : (Code.region id l.toArray true).wp P Q a w := wp_region_still_tail n hm hB h
theorem below_drew {B : Nat} {a w : World} (h : Below B a w.drew) : Below B a w := ⟨h.os, h.tape, h.output, h.size, h.block⟩
theorem quiet_add_left {P : Program} {f : FuncId} {args : Array Value} {w : World} {a n : Nat} {v : Value}
    (h : Calls P f args (w.drewN (a + n)) fun e w' => e = .returned v ∧ w.drewN (a + n) = w') :
    Calls P f args (w.drewN (a + n)) fun e w'' => e = .returned v ∧ ∃ m, w'' = w.drewN (a + m) :=
  h.mono fun _ _ ⟨he, hm⟩ => ⟨he, n, hm.symm⟩
theorem quiet_left {P : Program} {f : FuncId} {args : Array Value} {w : World} {n : Nat} {v : Value}
    (h : Calls P f args (w.drewN n) fun e w' => e = .returned v ∧ w.drewN n = w') : Calls P f args (w.drewN n) fun e w'' => e = .returned v ∧ ∃ m, w'' = w.drewN m :=
  h.mono fun _ _ ⟨he, hm⟩ => ⟨he, n, hm.symm⟩

/-! ### The law -/
section
variable {P : Program}
theorem trodAll_stays {H : Type} {enc : TypeId × Value → H} {W W' : World} (hl : laidOutB P = true) (hb : Below W.heap.size W W') : ∀ (ts : List TypeId) (vs : List Value) (ds : List (DataW H)) (ps : List MemPlace),
    ts.all (fun t => P.readableRec t && decide (t < P.types.size)) = true → DataW.TrodAll enc P W 0 (fun _ => true) true ts vs ds ps → DataW.TrodAll enc P W' 0 (fun b => decide (b < W.heap.size)) true ts vs ds ps
  | [], [], [], _, _, h => h
  | t :: ts, v :: vs, d :: ds, ps, hr, h => by
    obtain ⟨p, q, h1, h2, rfl⟩ := h
    simp only [List.all_cons, Bool.and_eq_true, decide_eq_true_eq] at hr
    obtain ⟨⟨hr1, hr2⟩, hr3⟩ := hr
    refine ⟨p, q, Below.trod hl hr1 hr2 h1 hb (fun x hx => ?_), trodAll_stays hl hb ts vs ds q hr3 h2, rfl⟩
    obtain ⟨m, hm⟩ := h1
    exact DataW.trod_lt m _ _ _ hm x hx
  | [], [], _ :: _, _, _, h => h.elim
  | [], _ :: _, [], _, _, h => h.elim
  | [], _ :: _, _ :: _, _, _, h => h.elim
  | _ :: _, [], [], _, _, h => h.elim
  | _ :: _, [], _ :: _, _, _, h => h.elim
  | _ :: _, _ :: _, [], _, _, h => h.elim

theorem trodAll_len {H : Type} {enc : TypeId × Value → H} {W : World} : ∀ (ts : List TypeId) (vs : List Value) (ds : List (DataW H)) (ps : List MemPlace),
    DataW.TrodAll enc P W 0 (fun _ => true) true ts vs ds ps → vs.length = ts.length ∧ ds.length = ts.length
  | [], [], [], _, _ => ⟨rfl, rfl⟩
  | t :: ts, v :: vs, d :: ds, ps, h => by
    obtain ⟨p, q, h1, h2, rfl⟩ := h
    have := trodAll_len ts vs ds q h2
    simp [this.1, this.2]
  | [], [], _ :: _, _, h => h.elim
  | [], _ :: _, [], _, h => h.elim
  | [], _ :: _, _ :: _, _, h => h.elim
  | _ :: _, [], [], _, h => h.elim
  | _ :: _, [], _ :: _, _, h => h.elim
  | _ :: _, _ :: _, [], _, h => h.elim

theorem trodAll_at {H : Type} {enc : TypeId × Value → H} {W : World} : ∀ (ts : List TypeId) (vs : List Value) (ds : List (DataW H)) (ps : List MemPlace),
    DataW.TrodAll enc P W 0 (fun _ => true) true ts vs ds ps → ∀ (j : Nat) (t : TypeId) (v : Value), ts[j]? = some t → vs[j]? = some v → ∃ d p, DataW.Trod enc P W 0 (fun _ => true) true t v d p
  | [], [], [], _, _, j, t, v, ht, _ => by simp at ht
  | t' :: ts, v' :: vs, d :: ds, ps, h, j, t, v, ht, hv => by
    obtain ⟨p, q, h1, h2, rfl⟩ := h
    cases j with
    | zero =>
      simp at ht hv
      subst ht hv
      exact ⟨d, p, h1⟩
    | succ j => exact trodAll_at ts vs ds q h2 j t v (by simpa using ht) (by simpa using hv)
  | [], [], _ :: _, _, h, _, _, _, _, _ => h.elim
  | [], _ :: _, [], _, h, _, _, _, _, _ => h.elim
  | [], _ :: _, _ :: _, _, h, _, _, _, _, _ => h.elim
  | _ :: _, [], [], _, h, _, _, _, _, _ => h.elim
  | _ :: _, [], _ :: _, _, h, _, _, _, _, _ => h.elim
  | _ :: _, _ :: _, [], _, h, _, _, _, _, _ => h.elim
end

/-- What the walk of a law must show. -/
def Walk (F : FuncId) (fn : Func) : Prop :=
  ∀ (W : World) (args : Array Value), args.size = fn.params.size → (∀ (j : Nat) (t : TypeId) (v : Value), fn.params[j]? = some t → args[j]? = some v → Came Tryz.prog W t v) →
    Calls Tryz.prog F args W fun e W' => e = .returned (.bool true) ∧ Below W.heap.size W W'

set_option maxRecDepth 100000 in
theorem law_step {F : FuncId} {fn : Func} {s : ChangeSpec} {tb : TypeId} {H : Type} {enc : TypeId × Value → H}
    (hread : fn.params.toList.all (fun t => Tryz.prog.readableRec t && decide (t < Tryz.prog.types.size)) = true) (hres : fn.resultTypes = #[tb]) (hbool : Tryz.prog.underlying tb = some .bool) (hvars : s.vars = [])
    (hspec : ∀ ds : List (DataW H), ds.length = fn.params.size → s.fn H ds = { results := [.lit (.bool true)], args := ds }) (walk : Walk F fn)
    (W : World) (base : Nat) (args : Array Value) (ds gs : List (DataW H)) (before : List MemPlace)
    (hval : ∀ (j : Nat) t v, fn.params[j]? = some t → args[j]? = some v → Value.okWide Tryz.prog W .any base t v)
    (hW : DataW.Whole enc Tryz.prog fn.params.toList s.vars false W args.toList ds gs before) :
    Calls Tryz.prog F args W fun e W' => ∃ v, e = .returned v ∧ s.post enc Tryz.prog fn false true false false W args v W' := by
  have hW' := hW
  obtain ⟨p, q, hA, hV, rfl, _, _⟩ := hW
  obtain ⟨hl1, hl2⟩ := trodAll_len _ _ _ _ hA
  rw [hvars] at hV
  have hgs : gs = [] ∧ q = [] := by
    cases gs with
    | nil => exact ⟨rfl, hV⟩
    | cons _ _ => exact hV.elim
  obtain ⟨rfl, rfl⟩ := hgs
  have hs := hspec (ds ++ []) (by simpa using hl2)
  refine (walk W args (by simpa using hl1) fun j t v ht hv => ?_).mono fun e W' ⟨he, hb⟩ => ?_
  · obtain ⟨d, p', hd⟩ := trodAll_at _ _ _ _ hA j t v (by simpa using ht) (by simpa using hv)
    exact ⟨⟨base, hval j t v ht hv⟩, H, enc, d, p', hd⟩
  · subst he
    refine ⟨_, rfl, ds, [], p ++ [], [], p, [], hW', ?_, ?_, ?_, hb.frame _, fun h => by cases h⟩
    · rw [hs, hres]
      exact trodAll_mk1 (shut_bool hbool _)
    · rw [hs]
      simpa using trodAll_stays laidOut hb _ _ _ _ hread hA
    · rw [hs, hvars]
      rfl

#print axioms law_step
end Go.Proofs.YtobcjbpgeohbgaaGreatDoor
