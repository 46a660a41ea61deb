/-
  Layer 27 (frame): words and numbers as a line; who one is; the text of a request.
-/
import Derived.Test.YtobcjbpgeohbgaaGreatDoorFrJ
import Derived.Test.YtobcjbpgeohbgaaGreatDoorFr5
namespace Go.Proofs.YtobcjbpgeohbgaaGreatDoor
open Go.RowKit
set_option linter.unusedVariables false
set_option linter.unusedSimpArgs false

/-- A word, or a number. -/
inductive Wd where
  | n (i : Int)
  | s (b : ByteArray)
instance : Inhabited Wd := ⟨.n 0⟩
def wdV : Wd → Value
  | .n i => .iface 3 (.int .i64 i)
  | .s b => .iface 9 (.string b)
def wdCells (x : Wd) : List Value := [wdV x]
theorem wdCells_len (x : Wd) : (wdCells x).length = 1 := rfl
def wdS (dt : Int → ByteArray) : Wd → ByteArray
  | .n i => dt i
  | .s b => b
theorem wd_cell {w : World} {b off : Nat} {l : List Wd} (h : ∀ i, i < l.length → ∀ j, j < 1 → w.cell? ⟨b, off + i * 1 + j, none⟩ = (wdCells (nth l i))[j]?) (i : Nat) (hi : i < l.length) :
    w.cell? ⟨b, off + i, none⟩ = some (wdV (nth l i)) := by
  have := h i hi 0 (by omega)
  simpa [wdCells] using this
theorem ta_n (i : Int) (w : World) : (Instr.typeAssert (.iface 3 (.int .i64 i)) 20 3 true).run Tryz.prog w = .ok (.tuple #[.int .i64 i, .bool true]) w := by kernel_rfl
theorem ta_s (b : ByteArray) (w : World) : (Instr.typeAssert (.iface 9 (.string b)) 20 3 true).run Tryz.prog w = .ok (.tuple #[.int .i64 0, .bool false]) w := by kernel_rfl
theorem ta_ss (b : ByteArray) (w : World) : (Instr.typeAssert (.iface 9 (.string b)) 20 9 false).run Tryz.prog w = .ok (.string b) w := by kernel_rfl
theorem own_snoc {w : World} {base : Nat} {e : TypeId} {v : Value} {k : Nat} {l : List Wd} {dt : Int → ByteArray} (hk : k < l.length) {x : ByteArray} (hx : x = wdS dt (nth l k)) (h : w.ownsRow base e 1 v (k + 1) (((l.take k).map (wdS dt)).flatMap strCells ++ [.string x])) : w.ownsRow base e 1 v (k + 1) (((l.take (k + 1)).map (wdS dt)).flatMap strCells) := by
  subst hx
  rw [List.take_succ_eq_append_getElem hk, List.map_append, List.flatMap_append]
  rw [nth_lt l k hk] at h
  exact h
set_option maxRecDepth 100000 in
set_option maxHeartbeats 1000000 in
theorem row_any (dt : Int → ByteArray) (a : Option Addr) (c : Nat) (l : List Wd) (w : World) (hm : l.length ≤ 40) (hc : l.length ≤ c) (hx : ∀ x, x ∈ l → (wdS dt x).size ≤ 100)
    (KD : ∀ i, .n i ∈ l → ∀ W, Below w.heap.size w W → Calls Tryz.prog 36 #[.int .i64 i] W fun e w' => e = .returned (.string (dt i)) ∧ Below W.heap.size W w') (hA : RowOf wdCells 1 w a l) :
    Calls Tryz.prog 128 #[.slice a l.length c] w fun e w' => e = .returned (.string (jn (l.map (wdS dt)))) ∧ Below w.heap.size w w' := by
  obtain ⟨i0, hi, hz0, hz1, hz2⟩ := info_parts info_str
  have HA := Lib.hid hA
  have HK := Lib.hid KD
  have KJ : ∀ v W, StrsAt W v (l.map (wdS dt)) → Calls Tryz.prog 129 #[v] W fun e w' => e = .returned (.string (jn (l.map (wdS dt)))) ∧ Below W.heap.size W w' := fun v W h => by
    obtain ⟨a2, c2, rfl, h1, h2, h3⟩ := h
    exact join_any a2 c2 (l.map (wdS dt)) W (by simpa using hm) h1 (fun x hx2 => by obtain ⟨y, hy, rfl⟩ := List.mem_map.1 hx2; exact hx y hy) h3
  have HJ := Lib.hid KJ
  clear hA KD KJ hx
  go_enter Tryz.func128, Tryz.ntmps128
  go_wp2_with fail
  go_loopg [3, 10] l.length (fun kx v i wr => ∃ k : Nat, k ≤ l.length ∧ l.length - k ≤ kx ∧ i = .int .i64 k ∧ Aside (wr.ownsRow w.heap.size 9 1 v k (((l.take k).map (wdS dt)).flatMap strCells)) ∧ Aside (Below w.heap.size w wr))
  case atStart => exact ⟨0, Nat.zero_le _, Nat.le_refl _, rfl, World.ownsRow_nil _ _ _ _, Below.refl _ _⟩
  case round =>
    obtain ⟨k, hkl, hkx, rfl, HO, HB⟩ := hrel
    have hkz : (0 : Int) ≤ (k : Int) := by omega
    by_cases hlt : k < l.length
    · have hltz : (k : Int) < (l.length : Int) := by omega
      obtain ⟨b, off, rfl, hcell⟩ : ∃ b off, a = some ⟨b, off, none⟩ ∧ ∀ i, i < l.length → ∀ j, j < 1 → wr.cell? ⟨b, off + i * 1 + j, none⟩ = (wdCells (nth l i))[j]? := by
        rcases HA.out.same wdCells_len HB.out with rfl | ⟨b, off, rfl, hc⟩
        · simp at hlt
        · exact ⟨b, off, rfl, hc⟩
      have c0 := wd_cell hcell k hlt
      have hmem : nth l k ∈ l := by rw [nth_lt l k hlt]; exact List.getElem_mem hlt
      obtain ⟨x, hx⟩ : ∃ x, x = nth l k := ⟨_, rfl⟩
      rw [← hx] at c0 hmem
      have HX := Lib.hid hx
      clear hcell hx
      cases x with
      | n i =>
        have h1 := ta_n i
        have KD := HK.out i hmem wr HB.out
        have c1 : wr.cell? ⟨b, off + k, none⟩ = some (.iface 3 (.int .i64 i)) := c0
        clear c0 hmem
        go_wp2_with (first | (go_at_call 36; refine KD.mono ?_; rintro e w1 ⟨rfl, b1⟩; have HO1 := Lib.hid (own_below HO.out b1); have HB1 := Lib.hid (HB.out.trans (b1.mono HB.out.size)); have hsz := HB1.out.size) | (at_builtin; refine wpList_append_one (by rfl) _ _ 78 (by rfl) w.heap.size 9 i0 (.string ⟨#[]⟩) 1 16 Tryz.underlying78 hi hz0 hz1 hz2 rfl (by decide) _ _ _ _ (by rfl) HO1.out (by rfl) (by rfl) (by rfl) (by omega) (by omega) hsz ?_; intro v' w2 hown1 hb2))
        have HO2 : Aside (w2.ownsRow w.heap.size 9 1 v' (k + 1) (((l.take (k + 1)).map (wdS dt)).flatMap strCells)) := own_snoc hlt (by rw [← HX.out]; rfl) hown1
        have HB2 : Aside (Below w.heap.size w w2) := HB1.out.trans hb2
        clear hown1 hb2
        go_wp2_with fail
        go_roundg (l.length - (k + 1))
        case measure => omega
        case rel => exact ⟨k + 1, by omega, Nat.le_refl _, by first | rfl | go_num | (congr 1; omega), HO2, HB2⟩
      | s t =>
        have h1 := ta_s t
        have h2 := ta_ss t
        have c1 : wr.cell? ⟨b, off + k, none⟩ = some (.iface 9 (.string t)) := c0
        have hsz := HB.out.size
        clear c0 hmem
        go_wp2_with (at_builtin; refine wpList_append_one (by rfl) _ _ 78 (by rfl) w.heap.size 9 i0 (.string ⟨#[]⟩) 1 16 Tryz.underlying78 hi hz0 hz1 hz2 rfl (by decide) _ _ _ _ (by rfl) HO.out (by rfl) (by rfl) (by rfl) (by omega) (by omega) hsz ?_; intro v' w2 hown1 hb2)
        have HO2 : Aside (w2.ownsRow w.heap.size 9 1 v' (k + 1) (((l.take (k + 1)).map (wdS dt)).flatMap strCells)) := own_snoc hlt (by rw [← HX.out]; rfl) hown1
        have HB2 : Aside (Below w.heap.size w w2) := HB.out.trans hb2
        clear hown1 hb2
        go_wp2_with fail
        go_roundg (l.length - (k + 1))
        case measure => omega
        case rel => exact ⟨k + 1, by omega, Nat.le_refl _, by first | rfl | go_num | (congr 1; omega), HO2, HB2⟩
    · obtain rfl : k = l.length := by omega
      have h := HO.out
      rw [List.take_length] at h
      have KJ := HJ.out _ _ (str_of_own h (by simp))
      clear h
      go_wp2_with (go_at_call 129; refine KJ.mono ?_; rintro e w1 ⟨rfl, b1⟩)
      go_ret
      exact ⟨rfl, HB.out.trans (b1.mono HB.out.size)⟩
/-- A small number as a text. -/
def dS (i : Int) : ByteArray := ⟨(Lib.decDigits i.toNat).toArray⟩
theorem dec_small (i : Int) (h0 : 0 ≤ i) (h1 : i < 100) (w : World) : Calls Tryz.prog 36 #[.int .i64 i] w fun e w' => e = .returned (.string (dS i)) ∧ Below w.heap.size w w' := by
  obtain ⟨k, rfl⟩ : ∃ k : Nat, i = k := ⟨i.toNat, by omega⟩
  have K := strconv_Itoa_small k (by omega) w
  have HK := Lib.hid K
  have hd : dS k = ⟨(Lib.decDigits k).toArray⟩ := by unfold dS; rw [Int.toNat_natCast]
  rw [hd]
  clear K hd h0 h1
  generalize (⟨(Lib.decDigits k).toArray⟩ : ByteArray) = t at *
  go_enter Tryz.func36, Tryz.ntmps36
  go_wp2_with (go_at_call 59; refine HK.out.mono ?_; rintro e w1 ⟨rfl, rfl⟩)
  go_ret
  exact ⟨rfl, Below.refl _ _⟩
def whoS (i : Int) : ByteArray := if i = -1 then ⟨#[99, 108, 105, 101, 110, 116]⟩ else dS i
theorem who_small (i : Int) (h0 : -1 ≤ i) (h1 : i < 100) (w : World) : Calls Tryz.prog 17 #[.int .i64 i] w fun e w' => e = .returned (.string (whoS i)) ∧ Below w.heap.size w w' := by
  unfold whoS
  by_cases h : i = -1
  · subst h
    rw [if_pos rfl]
    go_enter Tryz.func17, Tryz.ntmps17
    go_wp2
    go_ret
    exact ⟨rfl, Below.refl _ _⟩
  · rw [if_neg h]
    have K := Lib.hid (dec_small i (by omega) h1 w)
    have hb : (i == -1) = false := by simpa using h
    clear h h0 h1
    generalize dS i = t at *
    go_enter Tryz.func17, Tryz.ntmps17
    go_wp2_with (go_at_call 36; refine K.out.mono ?_; rintro e w1 ⟨rfl, b1⟩)
    go_ret
    exact ⟨rfl, b1⟩
abbrev rqx : Rq := ⟨5, -1, 2, 3, 40, 7⟩
def wdx : List Wd := [.s ⟨#[114, 101, 113, 117, 101, 115, 116]⟩, .n 5, .s ⟨#[102, 114, 111, 109]⟩, .s (whoS (-1)), .s ⟨#[116, 111]⟩, .s (whoS 2), .s ⟨#[108, 101, 118, 101, 108]⟩, .n 3, .s ⟨#[117, 110, 116, 105, 108]⟩, .n 40, .s ⟨#[119, 97, 105, 116]⟩, .n 7]
def lineX : ByteArray := ⟨#[114, 101, 113, 117, 101, 115, 116, 32, 53, 32, 102, 114, 111, 109, 32, 99, 108, 105, 101, 110, 116, 32, 116, 111, 32, 50, 32, 108, 101, 118, 101, 108, 32, 51, 32, 117, 110, 116, 105, 108, 32, 52, 48, 32, 119, 97, 105, 116, 32, 55]⟩
theorem line_x : jn (wdx.map (wdS dS)) = lineX := by decide +kernel
theorem row_wd (l : List Wd) (w : World) (n : Nat) (hn : w.heap.size = n) (t : TypeId) : RowOf wdCells 1 (w.alloc (.cells (l.flatMap wdCells).toArray t)) (some ⟨n, 0, none⟩) l := row_new wdCells 1 wdCells_len l w n hn t
theorem row_x (W : World) : Calls Tryz.prog 128 #[.slice (some ⟨W.heap.size, 0, none⟩) 12 12] (W.alloc (.cells (wdx.flatMap wdCells).toArray 20)) fun e w' => e = .returned (.string lineX) ∧ Below (W.heap.size + 1) (W.alloc (.cells (wdx.flatMap wdCells).toArray 20)) w' := by
  have K := row_any dS (some ⟨W.heap.size, 0, none⟩) 12 wdx (W.alloc (.cells (wdx.flatMap wdCells).toArray 20)) (by decide) (by decide) (by decide +kernel) (fun i hi W' hb => by
    have h : 0 ≤ i ∧ i < 100 := by
      simp [wdx] at hi
      omega
    exact dec_small i h.1 h.2 W') (row_wd wdx W _ rfl _)
  rw [line_x, World.size_alloc] at K
  exact K
set_option maxRecDepth 100000 in
set_option maxHeartbeats 2000000 in
theorem text_q (w : World) : Calls Tryz.prog 126 #[rqV rqx] w fun e w' => e = .returned (.string lineX) ∧ Below w.heap.size w w' := by
  obtain ⟨B, hBB⟩ : ∃ B, B = w.heap.size := ⟨_, rfl⟩
  have HB0 := Lib.hid hBB
  have O1 := Lib.hid (show IsObj (w.alloc (.cells #[.int .i64 5, .int .i64 (-1), .int .i64 2, .int .i64 3, .int .i64 40, .int .i64 7] 68)) B 68 [.int .i64 5, .int .i64 (-1), .int .i64 2, .int .i64 3, .int .i64 40, .int .i64 7] by rw [hBB]; exact IsObj.new w _ [.int .i64 5, .int .i64 (-1), .int .i64 2, .int .i64 3, .int .i64 40, .int .i64 7])
  have B1 := Lib.hid (show Below w.heap.size w (w.alloc (.cells #[.int .i64 5, .int .i64 (-1), .int .i64 2, .int .i64 3, .int .i64 40, .int .i64 7] 68)) from (Below.refl _ _).alloc (Nat.le_refl _) _)
  clear hBB
  go_enter Tryz.func126, Tryz.ntmps126
  go_upto_region 1 with (fail)
  rw [← HB0.out]
  generalize w.alloc (.cells #[.int .i64 5, .int .i64 (-1), .int .i64 2, .int .i64 3, .int .i64 40, .int .i64 7] 68) = w1 at *
  have c0 : w1.cell? ⟨B, 0, none⟩ = some (.int .i64 5) := O1.out.cell 0
  have c1 : w1.cell? ⟨B, 1, none⟩ = some (.int .i64 (-1)) := O1.out.cell 1
  have c2 : w1.cell? ⟨B, 2, none⟩ = some (.int .i64 2) := O1.out.cell 2
  have c3 : w1.cell? ⟨B, 3, none⟩ = some (.int .i64 3) := O1.out.cell 3
  have c4 : w1.cell? ⟨B, 4, none⟩ = some (.int .i64 40) := O1.out.cell 4
  have c5 : w1.cell? ⟨B, 5, none⟩ = some (.int .i64 7) := O1.out.cell 5
  refine wp_region_held_drew (S := fun W => Below w1.heap.size w1 W) (by kernel_rfl) ?_ (fun hHeld => ?_)
  · (try dsimp only); first | assumption | exact (Below.refl _ _).drew
  refine wpAnyH_take (i := 0) (oi := ?oi1) (v := ?v1) ?hi1 (by kernel_rfl) (by kernel_rfl) (by kernel_rfl) ?hQ1 ?hy1 (by assumption) ?_
  case hi1 => (simp only [List.getElem?_toArray, List.getElem?_cons_succ, List.getElem?_cons_zero]; rfl)
  case hQ1 => exact fun _ _ _ h => h
  case hy1 => (refine Or.inl ⟨by rfl, ?_⟩; intro w hSw; (have k0 := cell_keep hSw c0; have k1 := cell_keep hSw c1; have k2 := cell_keep hSw c2; have k3 := cell_keep hSw c3; have k4 := cell_keep hSw c4; have k5 := cell_keep hSw c5); go_simp; try with_reducible rfl)
  try simp only [Act.put, List.setIfInBounds_toArray, List.set_cons_zero, List.set_cons_succ]
  refine wpAnyH_take (i := 1) (oi := ?oi2) (v := ?v2) ?hi2 (by kernel_rfl) (by kernel_rfl) (by kernel_rfl) ?hQ2 ?hy2 (by assumption) ?_
  case hi2 => (simp only [List.getElem?_toArray, List.getElem?_cons_succ, List.getElem?_cons_zero]; rfl)
  case hQ2 => exact fun _ _ _ h => h
  case hy2 => (refine Or.inl ⟨by rfl, ?_⟩; intro w hSw; (have k0 := cell_keep hSw c0; have k1 := cell_keep hSw c1; have k2 := cell_keep hSw c2; have k3 := cell_keep hSw c3; have k4 := cell_keep hSw c4; have k5 := cell_keep hSw c5); go_simp; try with_reducible rfl)
  try simp only [Act.put, List.setIfInBounds_toArray, List.set_cons_zero, List.set_cons_succ]
  refine wpAnyH_take (i := 2) (oi := ?oi3) (v := ?v3) ?hi3 (by kernel_rfl) (by kernel_rfl) (by kernel_rfl) ?hQ3 ?hy3 (by assumption) ?_
  case hi3 => (simp only [List.getElem?_toArray, List.getElem?_cons_succ, List.getElem?_cons_zero]; rfl)
  case hQ3 => exact fun _ _ _ h => h
  case hy3 => (refine Or.inl ⟨by rfl, ?_⟩; intro w hSw; (have k0 := cell_keep hSw c0; have k1 := cell_keep hSw c1; have k2 := cell_keep hSw c2; have k3 := cell_keep hSw c3; have k4 := cell_keep hSw c4; have k5 := cell_keep hSw c5); go_simp; try with_reducible rfl)
  try simp only [Act.put, List.setIfInBounds_toArray, List.set_cons_zero, List.set_cons_succ]
  refine wpAnyH_take (i := 3) (oi := ?oi4) (v := ?v4) ?hi4 (by kernel_rfl) (by kernel_rfl) (by kernel_rfl) ?hQ4 ?hy4 (by assumption) ?_
  case hi4 => (simp only [List.getElem?_toArray, List.getElem?_cons_succ, List.getElem?_cons_zero]; rfl)
  case hQ4 => exact fun _ _ _ h => h
  case hy4 => (refine Or.inl ⟨by rfl, ?_⟩; intro w hSw; (have k0 := cell_keep hSw c0; have k1 := cell_keep hSw c1; have k2 := cell_keep hSw c2; have k3 := cell_keep hSw c3; have k4 := cell_keep hSw c4; have k5 := cell_keep hSw c5); go_simp; try with_reducible rfl)
  try simp only [Act.put, List.setIfInBounds_toArray, List.set_cons_zero, List.set_cons_succ]
  refine wpAnyH_take (i := 4) (oi := ?oi5) (v := ?v5) ?hi5 (by kernel_rfl) (by kernel_rfl) (by kernel_rfl) ?hQ5 ?hy5 (by assumption) ?_
  case hi5 => (simp only [List.getElem?_toArray, List.getElem?_cons_succ, List.getElem?_cons_zero]; rfl)
  case hQ5 => exact fun _ _ _ h => h
  case hy5 => (refine Or.inl ⟨by rfl, ?_⟩; intro w hSw; (have k0 := cell_keep hSw c0; have k1 := cell_keep hSw c1; have k2 := cell_keep hSw c2; have k3 := cell_keep hSw c3; have k4 := cell_keep hSw c4; have k5 := cell_keep hSw c5); go_simp; try with_reducible rfl)
  try simp only [Act.put, List.setIfInBounds_toArray, List.set_cons_zero, List.set_cons_succ]
  refine wpAnyH_take (i := 5) (oi := ?oi6) (v := ?v6) ?hi6 (by kernel_rfl) (by kernel_rfl) (by kernel_rfl) ?hQ6 ?hy6 (by assumption) ?_
  case hi6 => (simp only [List.getElem?_toArray, List.getElem?_cons_succ, List.getElem?_cons_zero]; rfl)
  case hQ6 => exact fun _ _ _ h => h
  case hy6 => (refine Or.inl ⟨by rfl, ?_⟩; intro w hSw; (have k0 := cell_keep hSw c0; have k1 := cell_keep hSw c1; have k2 := cell_keep hSw c2; have k3 := cell_keep hSw c3; have k4 := cell_keep hSw c4; have k5 := cell_keep hSw c5); go_simp; try with_reducible rfl)
  try simp only [Act.put, List.setIfInBounds_toArray, List.set_cons_zero, List.set_cons_succ]
  refine wpAnyH_take (i := 6) (oi := ?oi7) (v := ?v7) ?hi7 (by kernel_rfl) (by kernel_rfl) (by kernel_rfl) ?hQ7 ?hy7 (by assumption) ?_
  case hi7 => (simp only [List.getElem?_toArray, List.getElem?_cons_succ, List.getElem?_cons_zero]; rfl)
  case hQ7 => exact fun _ _ _ h => h
  case hy7 => (refine Or.inl ⟨by rfl, ?_⟩; intro w hSw; (have k0 := cell_keep hSw c0; have k1 := cell_keep hSw c1; have k2 := cell_keep hSw c2; have k3 := cell_keep hSw c3; have k4 := cell_keep hSw c4; have k5 := cell_keep hSw c5); go_simp; try with_reducible rfl)
  try simp only [Act.put, List.setIfInBounds_toArray, List.set_cons_zero, List.set_cons_succ]
  refine wpAnyH_take (i := 7) (oi := ?oi8) (v := ?v8) ?hi8 (by kernel_rfl) (by kernel_rfl) (by kernel_rfl) ?hQ8 ?hy8 (by assumption) ?_
  case hi8 => (simp only [List.getElem?_toArray, List.getElem?_cons_succ, List.getElem?_cons_zero]; rfl)
  case hQ8 => exact fun _ _ _ h => h
  case hy8 => (refine Or.inl ⟨by rfl, ?_⟩; intro w hSw; (have k0 := cell_keep hSw c0; have k1 := cell_keep hSw c1; have k2 := cell_keep hSw c2; have k3 := cell_keep hSw c3; have k4 := cell_keep hSw c4; have k5 := cell_keep hSw c5); go_simp; try with_reducible rfl)
  try simp only [Act.put, List.setIfInBounds_toArray, List.set_cons_zero, List.set_cons_succ]
  refine wpAnyH_take (i := 8) (oi := ?oi9) (v := ?v9) ?hi9 (by kernel_rfl) (by kernel_rfl) (by kernel_rfl) ?hQ9 ?hy9 (by assumption) ?_
  case hi9 => (simp only [List.getElem?_toArray, List.getElem?_cons_succ, List.getElem?_cons_zero]; rfl)
  case hQ9 => exact fun _ _ _ h => h
  case hy9 => (refine Or.inl ⟨by rfl, ?_⟩; intro w hSw; (have k0 := cell_keep hSw c0; have k1 := cell_keep hSw c1; have k2 := cell_keep hSw c2; have k3 := cell_keep hSw c3; have k4 := cell_keep hSw c4; have k5 := cell_keep hSw c5); go_simp; try with_reducible rfl)
  try simp only [Act.put, List.setIfInBounds_toArray, List.set_cons_zero, List.set_cons_succ]
  refine wpAnyH_take (i := 11) (oi := ?oi10) (v := ?v10) ?hi10 (by kernel_rfl) (by kernel_rfl) (by kernel_rfl) ?hQ10 ?hy10 (by assumption) ?_
  case hi10 => (simp only [List.getElem?_toArray, List.getElem?_cons_succ, List.getElem?_cons_zero]; rfl)
  case hQ10 => exact fun _ _ _ h => h
  case hy10 => (refine Or.inl ⟨by rfl, ?_⟩; intro w hSw; (have k0 := cell_keep hSw c0; have k1 := cell_keep hSw c1; have k2 := cell_keep hSw c2; have k3 := cell_keep hSw c3; have k4 := cell_keep hSw c4; have k5 := cell_keep hSw c5); go_simp; try with_reducible rfl)
  try simp only [Act.put, List.setIfInBounds_toArray, List.set_cons_zero, List.set_cons_succ]
  refine wpAnyH_take (i := 12) (oi := ?oi11) (v := ?v11) ?hi11 (by kernel_rfl) (by kernel_rfl) (by kernel_rfl) ?hQ11 ?hy11 (by assumption) ?_
  case hi11 => (simp only [List.getElem?_toArray, List.getElem?_cons_succ, List.getElem?_cons_zero]; rfl)
  case hQ11 => exact fun _ _ _ h => h
  case hy11 => (refine Or.inl ⟨by rfl, ?_⟩; intro w hSw; (have k0 := cell_keep hSw c0; have k1 := cell_keep hSw c1; have k2 := cell_keep hSw c2; have k3 := cell_keep hSw c3; have k4 := cell_keep hSw c4; have k5 := cell_keep hSw c5); go_simp; try with_reducible rfl)
  try simp only [Act.put, List.setIfInBounds_toArray, List.set_cons_zero, List.set_cons_succ]
  refine wpAnyH_take (i := 13) (oi := ?oi12) (v := ?v12) ?hi12 (by kernel_rfl) (by kernel_rfl) (by kernel_rfl) ?hQ12 ?hy12 (by assumption) ?_
  case hi12 => (simp only [List.getElem?_toArray, List.getElem?_cons_succ, List.getElem?_cons_zero]; rfl)
  case hQ12 => exact fun _ _ _ h => h
  case hy12 => (refine Or.inl ⟨by rfl, ?_⟩; intro w hSw; (have k0 := cell_keep hSw c0; have k1 := cell_keep hSw c1; have k2 := cell_keep hSw c2; have k3 := cell_keep hSw c3; have k4 := cell_keep hSw c4; have k5 := cell_keep hSw c5); go_simp; try with_reducible rfl)
  try simp only [Act.put, List.setIfInBounds_toArray, List.set_cons_zero, List.set_cons_succ]
  refine wpAnyH_take (i := 14) (oi := ?oi13) (v := ?v13) ?hi13 (by kernel_rfl) (by kernel_rfl) (by kernel_rfl) ?hQ13 ?hy13 (by assumption) ?_
  case hi13 => (simp only [List.getElem?_toArray, List.getElem?_cons_succ, List.getElem?_cons_zero]; rfl)
  case hQ13 => exact fun _ _ _ h => h
  case hy13 => (refine Or.inl ⟨by rfl, ?_⟩; intro w hSw; (have k0 := cell_keep hSw c0; have k1 := cell_keep hSw c1; have k2 := cell_keep hSw c2; have k3 := cell_keep hSw c3; have k4 := cell_keep hSw c4; have k5 := cell_keep hSw c5); go_simp; try with_reducible rfl)
  try simp only [Act.put, List.setIfInBounds_toArray, List.set_cons_zero, List.set_cons_succ]
  refine wpAnyH_take (i := 17) (oi := ?oi14) (v := ?v14) ?hi14 (by kernel_rfl) (by kernel_rfl) (by kernel_rfl) ?hQ14 ?hy14 (by assumption) ?_
  case hi14 => (simp only [List.getElem?_toArray, List.getElem?_cons_succ, List.getElem?_cons_zero]; rfl)
  case hQ14 => exact fun _ _ _ h => h
  case hy14 => (refine Or.inl ⟨by rfl, ?_⟩; intro w hSw; (have k0 := cell_keep hSw c0; have k1 := cell_keep hSw c1; have k2 := cell_keep hSw c2; have k3 := cell_keep hSw c3; have k4 := cell_keep hSw c4; have k5 := cell_keep hSw c5); go_simp; try with_reducible rfl)
  try simp only [Act.put, List.setIfInBounds_toArray, List.set_cons_zero, List.set_cons_succ]
  refine wpAnyH_take (i := 18) (oi := ?oi15) (v := ?v15) ?hi15 (by kernel_rfl) (by kernel_rfl) (by kernel_rfl) ?hQ15 ?hy15 (by assumption) ?_
  case hi15 => (simp only [List.getElem?_toArray, List.getElem?_cons_succ, List.getElem?_cons_zero]; rfl)
  case hQ15 => exact fun _ _ _ h => h
  case hy15 => (refine Or.inl ⟨by rfl, ?_⟩; intro w hSw; (have k0 := cell_keep hSw c0; have k1 := cell_keep hSw c1; have k2 := cell_keep hSw c2; have k3 := cell_keep hSw c3; have k4 := cell_keep hSw c4; have k5 := cell_keep hSw c5); go_simp; try with_reducible rfl)
  try simp only [Act.put, List.setIfInBounds_toArray, List.set_cons_zero, List.set_cons_succ]
  refine wpAnyH_take (i := 19) (oi := ?oi16) (v := ?v16) ?hi16 (by kernel_rfl) (by kernel_rfl) (by kernel_rfl) ?hQ16 ?hy16 (by assumption) ?_
  case hi16 => (simp only [List.getElem?_toArray, List.getElem?_cons_succ, List.getElem?_cons_zero]; rfl)
  case hQ16 => exact fun _ _ _ h => h
  case hy16 => (refine Or.inl ⟨by rfl, ?_⟩; intro w hSw; (have k0 := cell_keep hSw c0; have k1 := cell_keep hSw c1; have k2 := cell_keep hSw c2; have k3 := cell_keep hSw c3; have k4 := cell_keep hSw c4; have k5 := cell_keep hSw c5); go_simp; try with_reducible rfl)
  try simp only [Act.put, List.setIfInBounds_toArray, List.set_cons_zero, List.set_cons_succ]
  refine wpAnyH_take (i := 20) (oi := ?oi17) (v := ?v17) ?hi17 (by kernel_rfl) (by kernel_rfl) (by kernel_rfl) ?hQ17 ?hy17 (by assumption) ?_
  case hi17 => (simp only [List.getElem?_toArray, List.getElem?_cons_succ, List.getElem?_cons_zero]; rfl)
  case hQ17 => exact fun _ _ _ h => h
  case hy17 => (refine Or.inl ⟨by rfl, ?_⟩; intro w hSw; (have k0 := cell_keep hSw c0; have k1 := cell_keep hSw c1; have k2 := cell_keep hSw c2; have k3 := cell_keep hSw c3; have k4 := cell_keep hSw c4; have k5 := cell_keep hSw c5); go_simp; try with_reducible rfl)
  try simp only [Act.put, List.setIfInBounds_toArray, List.set_cons_zero, List.set_cons_succ]
  refine wpAnyH_take (i := 21) (oi := ?oi18) (v := ?v18) ?hi18 (by kernel_rfl) (by kernel_rfl) (by kernel_rfl) ?hQ18 ?hy18 (by assumption) ?_
  case hi18 => (simp only [List.getElem?_toArray, List.getElem?_cons_succ, List.getElem?_cons_zero]; rfl)
  case hQ18 => exact fun _ _ _ h => h
  case hy18 => (refine Or.inl ⟨by rfl, ?_⟩; intro w hSw; (have k0 := cell_keep hSw c0; have k1 := cell_keep hSw c1; have k2 := cell_keep hSw c2; have k3 := cell_keep hSw c3; have k4 := cell_keep hSw c4; have k5 := cell_keep hSw c5); go_simp; try with_reducible rfl)
  try simp only [Act.put, List.setIfInBounds_toArray, List.set_cons_zero, List.set_cons_succ]
  refine wpAnyH_take (i := 22) (oi := ?oi19) (v := ?v19) ?hi19 (by kernel_rfl) (by kernel_rfl) (by kernel_rfl) ?hQ19 ?hy19 (by assumption) ?_
  case hi19 => (simp only [List.getElem?_toArray, List.getElem?_cons_succ, List.getElem?_cons_zero]; rfl)
  case hQ19 => exact fun _ _ _ h => h
  case hy19 => (refine Or.inl ⟨by rfl, ?_⟩; intro w hSw; (have k0 := cell_keep hSw c0; have k1 := cell_keep hSw c1; have k2 := cell_keep hSw c2; have k3 := cell_keep hSw c3; have k4 := cell_keep hSw c4; have k5 := cell_keep hSw c5); go_simp; try with_reducible rfl)
  try simp only [Act.put, List.setIfInBounds_toArray, List.set_cons_zero, List.set_cons_succ]
  refine wpAnyH_take (i := 23) (oi := ?oi20) (v := ?v20) ?hi20 (by kernel_rfl) (by kernel_rfl) (by kernel_rfl) ?hQ20 ?hy20 (by assumption) ?_
  case hi20 => (simp only [List.getElem?_toArray, List.getElem?_cons_succ, List.getElem?_cons_zero]; rfl)
  case hQ20 => exact fun _ _ _ h => h
  case hy20 => (refine Or.inl ⟨by rfl, ?_⟩; intro w hSw; (have k0 := cell_keep hSw c0; have k1 := cell_keep hSw c1; have k2 := cell_keep hSw c2; have k3 := cell_keep hSw c3; have k4 := cell_keep hSw c4; have k5 := cell_keep hSw c5); go_simp; try with_reducible rfl)
  try simp only [Act.put, List.setIfInBounds_toArray, List.set_cons_zero, List.set_cons_succ]
  refine wpAnyH_take (i := 24) (oi := ?oi21) (v := ?v21) ?hi21 (by kernel_rfl) (by kernel_rfl) (by kernel_rfl) ?hQ21 ?hy21 (by assumption) ?_
  case hi21 => (simp only [List.getElem?_toArray, List.getElem?_cons_succ, List.getElem?_cons_zero]; rfl)
  case hQ21 => exact fun _ _ _ h => h
  case hy21 => (refine Or.inl ⟨by rfl, ?_⟩; intro w hSw; (have k0 := cell_keep hSw c0; have k1 := cell_keep hSw c1; have k2 := cell_keep hSw c2; have k3 := cell_keep hSw c3; have k4 := cell_keep hSw c4; have k5 := cell_keep hSw c5); go_simp; try with_reducible rfl)
  try simp only [Act.put, List.setIfInBounds_toArray, List.set_cons_zero, List.set_cons_succ]
  refine wpAnyH_take (i := 25) (oi := ?oi22) (v := ?v22) ?hi22 (by kernel_rfl) (by kernel_rfl) (by kernel_rfl) ?hQ22 ?hy22 (by assumption) ?_
  case hi22 => (simp only [List.getElem?_toArray, List.getElem?_cons_succ, List.getElem?_cons_zero]; rfl)
  case hQ22 => exact fun _ _ _ h => h
  case hy22 => (refine Or.inl ⟨by rfl, ?_⟩; intro w hSw; (have k0 := cell_keep hSw c0; have k1 := cell_keep hSw c1; have k2 := cell_keep hSw c2; have k3 := cell_keep hSw c3; have k4 := cell_keep hSw c4; have k5 := cell_keep hSw c5); go_simp; try with_reducible rfl)
  try simp only [Act.put, List.setIfInBounds_toArray, List.set_cons_zero, List.set_cons_succ]
  refine wpAnyH_take (i := 26) (oi := ?oi23) (v := ?v23) ?hi23 (by kernel_rfl) (by kernel_rfl) (by kernel_rfl) ?hQ23 ?hy23 (by assumption) ?_
  case hi23 => (simp only [List.getElem?_toArray, List.getElem?_cons_succ, List.getElem?_cons_zero]; rfl)
  case hQ23 => exact fun _ _ _ h => h
  case hy23 => (refine Or.inl ⟨by rfl, ?_⟩; intro w hSw; (have k0 := cell_keep hSw c0; have k1 := cell_keep hSw c1; have k2 := cell_keep hSw c2; have k3 := cell_keep hSw c3; have k4 := cell_keep hSw c4; have k5 := cell_keep hSw c5); go_simp; try with_reducible rfl)
  try simp only [Act.put, List.setIfInBounds_toArray, List.set_cons_zero, List.set_cons_succ]
  refine wpAnyH_take (i := 27) (oi := ?oi24) (v := ?v24) ?hi24 (by kernel_rfl) (by kernel_rfl) (by kernel_rfl) ?hQ24 ?hy24 (by assumption) ?_
  case hi24 => (simp only [List.getElem?_toArray, List.getElem?_cons_succ, List.getElem?_cons_zero]; rfl)
  case hQ24 => exact fun _ _ _ h => h
  case hy24 => (refine Or.inl ⟨by rfl, ?_⟩; intro w hSw; (have k0 := cell_keep hSw c0; have k1 := cell_keep hSw c1; have k2 := cell_keep hSw c2; have k3 := cell_keep hSw c3; have k4 := cell_keep hSw c4; have k5 := cell_keep hSw c5); go_simp; try with_reducible rfl)
  try simp only [Act.put, List.setIfInBounds_toArray, List.set_cons_zero, List.set_cons_succ]
  refine wpAnyH_take (i := 28) (oi := ?oi25) (v := ?v25) ?hi25 (by kernel_rfl) (by kernel_rfl) (by kernel_rfl) ?hQ25 ?hy25 (by assumption) ?_
  case hi25 => (simp only [List.getElem?_toArray, List.getElem?_cons_succ, List.getElem?_cons_zero]; rfl)
  case hQ25 => exact fun _ _ _ h => h
  case hy25 => (refine Or.inl ⟨by rfl, ?_⟩; intro w hSw; (have k0 := cell_keep hSw c0; have k1 := cell_keep hSw c1; have k2 := cell_keep hSw c2; have k3 := cell_keep hSw c3; have k4 := cell_keep hSw c4; have k5 := cell_keep hSw c5); go_simp; try with_reducible rfl)
  try simp only [Act.put, List.setIfInBounds_toArray, List.set_cons_zero, List.set_cons_succ]
  refine wpAnyH_take (i := 29) (oi := ?oi26) (v := ?v26) ?hi26 (by kernel_rfl) (by kernel_rfl) (by kernel_rfl) ?hQ26 ?hy26 (by assumption) ?_
  case hi26 => (simp only [List.getElem?_toArray, List.getElem?_cons_succ, List.getElem?_cons_zero]; rfl)
  case hQ26 => exact fun _ _ _ h => h
  case hy26 => (refine Or.inl ⟨by rfl, ?_⟩; intro w hSw; (have k0 := cell_keep hSw c0; have k1 := cell_keep hSw c1; have k2 := cell_keep hSw c2; have k3 := cell_keep hSw c3; have k4 := cell_keep hSw c4; have k5 := cell_keep hSw c5); go_simp; try with_reducible rfl)
  try simp only [Act.put, List.setIfInBounds_toArray, List.set_cons_zero, List.set_cons_succ]
  refine wpAnyH_take (i := 30) (oi := ?oi27) (v := ?v27) ?hi27 (by kernel_rfl) (by kernel_rfl) (by kernel_rfl) ?hQ27 ?hy27 (by assumption) ?_
  case hi27 => (simp only [List.getElem?_toArray, List.getElem?_cons_succ, List.getElem?_cons_zero]; rfl)
  case hQ27 => exact fun _ _ _ h => h
  case hy27 => (refine Or.inl ⟨by rfl, ?_⟩; intro w hSw; (have k0 := cell_keep hSw c0; have k1 := cell_keep hSw c1; have k2 := cell_keep hSw c2; have k3 := cell_keep hSw c3; have k4 := cell_keep hSw c4; have k5 := cell_keep hSw c5); go_simp; try with_reducible rfl)
  try simp only [Act.put, List.setIfInBounds_toArray, List.set_cons_zero, List.set_cons_succ]
  refine wpAnyH_take (i := 31) (oi := ?oi28) (v := ?v28) ?hi28 (by kernel_rfl) (by kernel_rfl) (by kernel_rfl) ?hQ28 ?hy28 (by assumption) ?_
  case hi28 => (simp only [List.getElem?_toArray, List.getElem?_cons_succ, List.getElem?_cons_zero]; rfl)
  case hQ28 => exact fun _ _ _ h => h
  case hy28 => (refine Or.inl ⟨by rfl, ?_⟩; intro w hSw; (have k0 := cell_keep hSw c0; have k1 := cell_keep hSw c1; have k2 := cell_keep hSw c2; have k3 := cell_keep hSw c3; have k4 := cell_keep hSw c4; have k5 := cell_keep hSw c5); go_simp; try with_reducible rfl)
  try simp only [Act.put, List.setIfInBounds_toArray, List.set_cons_zero, List.set_cons_succ]
  refine wpAnyH_ready (rs := [9]) (by kernel_rfl) (by simp) ?_
  refine AllReadyH.cons (o := ?oi2909) ?ho2909 (fun K hK => ?_) AllReadyH.nil
  case ho2909 => (simp only [List.getElem?_toArray, List.getElem?_cons_succ, List.getElem?_cons_zero]; rfl)
  go_simp
  go_at_call 17; (with_reducible refine (who_small (-1) (by decide) (by decide) _).mono ?_); rintro e wA ⟨rfl, hbA⟩; have hkA := below_go (by assumption) hbA
  refine hK.out _ _ ?_ (fun hHeld => ?_)
  · (try dsimp only); first | assumption | exact (Below.refl _ _).drew
  clear hK K
  try simp only [Act.put, List.setIfInBounds_toArray, List.set_cons_zero, List.set_cons_succ]
  refine wpAnyH_take (i := 10) (oi := ?oi30) (v := ?v30) ?hi30 (by kernel_rfl) (by kernel_rfl) (by kernel_rfl) ?hQ30 ?hy30 (by assumption) ?_
  case hi30 => (simp only [List.getElem?_toArray, List.getElem?_cons_succ, List.getElem?_cons_zero]; rfl)
  case hQ30 => exact fun _ _ _ h => h
  case hy30 => (refine Or.inl ⟨by rfl, ?_⟩; intro w hSw; (have k0 := cell_keep hSw c0; have k1 := cell_keep hSw c1; have k2 := cell_keep hSw c2; have k3 := cell_keep hSw c3; have k4 := cell_keep hSw c4; have k5 := cell_keep hSw c5); go_simp; try with_reducible rfl)
  try simp only [Act.put, List.setIfInBounds_toArray, List.set_cons_zero, List.set_cons_succ]
  refine wpAnyH_ready (rs := [15]) (by kernel_rfl) (by simp) ?_
  refine AllReadyH.cons (o := ?oi3115) ?ho3115 (fun K hK => ?_) AllReadyH.nil
  case ho3115 => (simp only [List.getElem?_toArray, List.getElem?_cons_succ, List.getElem?_cons_zero]; rfl)
  go_simp
  go_at_call 17; (with_reducible refine (who_small 2 (by decide) (by decide) _).mono ?_); rintro e wB ⟨rfl, hbB⟩; have hkB := below_go (by assumption) hbB
  refine hK.out _ _ ?_ (fun hHeld => ?_)
  · (try dsimp only); first | assumption | exact (Below.refl _ _).drew
  clear hK K
  try simp only [Act.put, List.setIfInBounds_toArray, List.set_cons_zero, List.set_cons_succ]
  refine wpAnyH_take (i := 16) (oi := ?oi32) (v := ?v32) ?hi32 (by kernel_rfl) (by kernel_rfl) (by kernel_rfl) ?hQ32 ?hy32 (by assumption) ?_
  case hi32 => (simp only [List.getElem?_toArray, List.getElem?_cons_succ, List.getElem?_cons_zero]; rfl)
  case hQ32 => exact fun _ _ _ h => h
  case hy32 => (refine Or.inl ⟨by rfl, ?_⟩; intro w hSw; (have k0 := cell_keep hSw c0; have k1 := cell_keep hSw c1; have k2 := cell_keep hSw c2; have k3 := cell_keep hSw c3; have k4 := cell_keep hSw c4; have k5 := cell_keep hSw c5); go_simp; try with_reducible rfl)
  try simp only [Act.put, List.setIfInBounds_toArray, List.set_cons_zero, List.set_cons_succ]
  refine wpAnyH_ready (rs := [32]) (by kernel_rfl) (by simp) ?_
  refine AllReadyH.cons (o := ?oi3332) ?ho3332 (fun K hK => ?_) AllReadyH.nil
  case ho3332 => (simp only [List.getElem?_toArray, List.getElem?_cons_succ, List.getElem?_cons_zero]; rfl)
  go_simp
  refine hK.out _ _ ?_ (fun hHeld => ?_)
  · (try dsimp only); exact hkB.alloc hkB.size _
  clear hK K
  try simp only [Act.put, List.setIfInBounds_toArray, List.set_cons_zero, List.set_cons_succ]
  refine wpAnyH_ready (rs := [33]) (by kernel_rfl) (by simp) ?_
  refine AllReadyH.cons (o := ?oi3433) ?ho3433 (fun K hK => ?_) AllReadyH.nil
  case ho3433 => (simp only [List.getElem?_toArray, List.getElem?_cons_succ, List.getElem?_cons_zero]; rfl)
  go_simp
  go_at_call 128; refine (row_x wB).mono ?_; rintro e wC ⟨rfl, hbC⟩; have hkC := (hkB.alloc hkB.size _).trans (hbC.mono (Nat.le_trans hkB.size (Nat.le_succ _)))
  refine hK.out _ _ ?_ (fun hHeld => ?_)
  · (try dsimp only); first | assumption | exact (Below.refl _ _).drew
  clear hK K
  try simp only [Act.put, List.setIfInBounds_toArray, List.set_cons_zero, List.set_cons_succ]
  refine wpAnyH_take (i := 34) (oi := ?oi35) (v := ?v35) ?hi35 (by kernel_rfl) (by kernel_rfl) (by kernel_rfl) ?hQ35 ?hy35 (by assumption) ?_
  case hi35 => (simp only [List.getElem?_toArray, List.getElem?_cons_succ, List.getElem?_cons_zero]; rfl)
  case hQ35 => exact fun _ _ _ h => h
  case hy35 => (refine Or.inl ⟨by rfl, ?_⟩; intro w hSw; (have k0 := cell_keep hSw c0; have k1 := cell_keep hSw c1; have k2 := cell_keep hSw c2; have k3 := cell_keep hSw c3; have k4 := cell_keep hSw c4; have k5 := cell_keep hSw c5); go_simp; try with_reducible rfl)
  try simp only [Act.put, List.setIfInBounds_toArray, List.set_cons_zero, List.set_cons_succ]
  refine wpAnyH_done (by kernel_rfl) ?_ _
  go_wp2
  go_ret
  exact ⟨rfl, B1.out.trans (hkC.mono B1.out.size)⟩
set_option maxRecDepth 100000 in
set_option maxHeartbeats 1000000 in
theorem req_q (x : Fm) (hk : x.k = 1) (w : World) : Calls Tryz.prog 12 #[fmV x] w fun e w' => e = .returned (.tuple #[rqV x.q, .bool true]) ∧ Below w.heap.size w w' := by
  obtain ⟨B, hBB⟩ : ∃ B, B = w.heap.size := ⟨_, rfl⟩
  have HB0 := Lib.hid hBB
  have O1 := Lib.hid (show IsObj (w.alloc (.cells (fmCells x).toArray 32)) B 32 (fmCells x) by rw [hBB]; exact IsObj.new w _ (fmCells x))
  have B1 := Lib.hid (show Below w.heap.size w (w.alloc (.cells (fmCells x).toArray 32)) from (Below.refl _ _).alloc (Nat.le_refl _) _)
  have KO : ∀ w, Calls Tryz.prog 27 #[fmV x] w fun e w' => e = .returned (.iface 68 (rqV x.q)) ∧ Below w.heap.size w w' := fun w => by
    have h := of_any x w
    rw [show partV x = .iface 68 (rqV x.q) by unfold partV; rw [hk]; rfl] at h
    exact h
  have HS1 := Lib.hid (show (w.alloc (.cells (fmCells x).toArray 32)).heap.size = B + 1 by rw [World.size_alloc, hBB])
  clear hBB hk
  go_enter Tryz.func12, Tryz.ntmps12
  go_upto_region 1 with (fail)
  rw [← HB0.out]
  generalize w.alloc (.cells (fmCells x).toArray 32) = w1 at *
  have hs1 := HS1.out
  have O2 := Lib.hid (show IsObj (w1.alloc (.cells #[.int .i64 0, .int .i64 0, .int .i64 0, .int .i64 0, .int .i64 0, .int .i64 0] 24)) (B + 1) 24 [.int .i64 0, .int .i64 0, .int .i64 0, .int .i64 0, .int .i64 0, .int .i64 0] by rw [← hs1]; exact IsObj.new w1 24 [.int .i64 0, .int .i64 0, .int .i64 0, .int .i64 0, .int .i64 0, .int .i64 0])
  have B2 := Lib.hid (show Below w1.heap.size w1 (w1.alloc (.cells #[.int .i64 0, .int .i64 0, .int .i64 0, .int .i64 0, .int .i64 0, .int .i64 0] 24)) from (Below.refl _ _).alloc (Nat.le_refl _) _)
  have RG := Lib.hid (IsObj.range (O1.out.alloc (.cells #[.int .i64 0, .int .i64 0, .int .i64 0, .int .i64 0, .int .i64 0, .int .i64 0] 24)))
  have h1 := ta_q x.q
  clear hs1
  go_upto_region 2 with (first | (refine wpList_load_mid (by rfl) 32 _ (by rfl) B 0 (by rfl) (fmCells x) _ (by exact RG.out) Tryz.underlying32 rfl (by kernel_rfl) ?_) | (go_at_call 27; refine (KO _).mono ?_; rintro e w2 ⟨rfl, b2⟩))
  have O3 := Lib.hid (show IsObj (w2.alloc (.cells #[.int .i64 x.q.id, .int .i64 x.q.frm, .int .i64 x.q.tto, .int .i64 x.q.lev, .int .i64 x.q.dl, .int .i64 x.q.bud] 68)) (B + 1) 24 [.int .i64 0, .int .i64 0, .int .i64 0, .int .i64 0, .int .i64 0, .int .i64 0] from (IsObj.below O2.out b2 O2.out.lt).alloc _)
  have B3 := Lib.hid (show Below w.heap.size w (w2.alloc (.cells #[.int .i64 x.q.id, .int .i64 x.q.frm, .int .i64 x.q.tto, .int .i64 x.q.lev, .int .i64 x.q.dl, .int .i64 x.q.bud] 68)) from (B1.out.trans ((B2.out.trans (b2.mono B2.out.size)).mono B1.out.size)).alloc (by have := B1.out.size; have := B2.out.size; have := b2.size; omega) _)
  have RT := Lib.hid (show (w2.alloc (.cells #[.int .i64 x.q.id, .int .i64 x.q.frm, .int .i64 x.q.tto, .int .i64 x.q.lev, .int .i64 x.q.dl, .int .i64 x.q.bud] 68)).there (B + 1) 0 ([.int .i64 x.q.id, .int .i64 x.q.frm, .int .i64 x.q.tto, .int .i64 x.q.lev, .int .i64 x.q.dl, .int .i64 x.q.bud] : List Value).toArray.size from IsObj.there O3.out 0 6 (Nat.le_refl _))
  have OF := Lib.hid (show IsObj ((w2.alloc (.cells #[.int .i64 x.q.id, .int .i64 x.q.frm, .int .i64 x.q.tto, .int .i64 x.q.lev, .int .i64 x.q.dl, .int .i64 x.q.bud] 68)).setCells (B + 1) 0 ([.int .i64 x.q.id, .int .i64 x.q.frm, .int .i64 x.q.tto, .int .i64 x.q.lev, .int .i64 x.q.dl, .int .i64 x.q.bud] : List Value).toArray.toList) (B + 1) 24 ([.int .i64 x.q.id, .int .i64 x.q.frm, .int .i64 x.q.tto, .int .i64 x.q.lev, .int .i64 x.q.dl, .int .i64 x.q.bud] : List Value) from IsObj.setAll O3.out (by rfl))
  have YF := Lib.hid (show Only (B + 1) (w2.alloc (.cells #[.int .i64 x.q.id, .int .i64 x.q.frm, .int .i64 x.q.tto, .int .i64 x.q.lev, .int .i64 x.q.dl, .int .i64 x.q.bud] 68)) ((w2.alloc (.cells #[.int .i64 x.q.id, .int .i64 x.q.frm, .int .i64 x.q.tto, .int .i64 x.q.lev, .int .i64 x.q.dl, .int .i64 x.q.bud] 68)).setCells (B + 1) 0 ([.int .i64 x.q.id, .int .i64 x.q.frm, .int .i64 x.q.tto, .int .i64 x.q.lev, .int .i64 x.q.dl, .int .i64 x.q.bud] : List Value).toArray.toList) from Only.setCells (b := B + 1) ([.int .i64 x.q.id, .int .i64 x.q.frm, .int .i64 x.q.tto, .int .i64 x.q.lev, .int .i64 x.q.dl, .int .i64 x.q.bud] : List Value) 0 (Only.refl (B + 1) (w2.alloc (.cells #[.int .i64 x.q.id, .int .i64 x.q.frm, .int .i64 x.q.tto, .int .i64 x.q.lev, .int .i64 x.q.dl, .int .i64 x.q.bud] 68))))
  clear b2 O1 O2 B2 RG KO
  go_wp2_with (refine wpList_store_mid (by rfl) 24 _ _ (by rfl) (B + 1) 0 ([.int .i64 x.q.id, .int .i64 x.q.frm, .int .i64 x.q.tto, .int .i64 x.q.lev, .int .i64 x.q.dl, .int .i64 x.q.bud] : List Value).toArray (by rfl) (by rfl) (by exact RT.out) (by kernel_rfl) (by kernel_rfl) ?_; generalize (w2.alloc (.cells #[.int .i64 x.q.id, .int .i64 x.q.frm, .int .i64 x.q.tto, .int .i64 x.q.lev, .int .i64 x.q.dl, .int .i64 x.q.bud] 68)).setCells (B + 1) 0 ([.int .i64 x.q.id, .int .i64 x.q.frm, .int .i64 x.q.tto, .int .i64 x.q.lev, .int .i64 x.q.dl, .int .i64 x.q.bud] : List Value).toArray.toList = wf at *)
  have RL := run_loadVar_mid (P := Tryz.prog) wf (B + 1) 0 24 ([.int .i64 x.q.id, .int .i64 x.q.frm, .int .i64 x.q.tto, .int .i64 x.q.lev, .int .i64 x.q.dl, .int .i64 x.q.bud] : List Value) _ (IsObj.range OF.out) Tryz.underlying24 rfl (by kernel_rfl)
  refine bodyPost_ret (v := .tuple #[.agg #[.int .i64 x.q.id, .int .i64 x.q.frm, .int .i64 x.q.tto, .int .i64 x.q.lev, .int .i64 x.q.dl, .int .i64 x.q.bud], .bool true]) ?_ rfl ?_
  · exact results_cell_tmp (by rfl) (by rfl) (by rfl) RL
  · exact ⟨rfl, B3.out.trans (YF.out.below (by have := HB0.out; omega) B3.out.size)⟩
set_option maxRecDepth 100000 in
set_option maxHeartbeats 1000000 in
theorem rep_q (x : Fm) (hk : x.k = 1) (w : World) : Calls Tryz.prog 13 #[fmV x] w fun e w' => e = .returned (.tuple #[rpV a0, .bool false]) ∧ Below w.heap.size w w' := by
  obtain ⟨B, hBB⟩ : ∃ B, B = w.heap.size := ⟨_, rfl⟩
  have HB0 := Lib.hid hBB
  have O1 := Lib.hid (show IsObj (w.alloc (.cells (fmCells x).toArray 32)) B 32 (fmCells x) by rw [hBB]; exact IsObj.new w _ (fmCells x))
  have B1 := Lib.hid (show Below w.heap.size w (w.alloc (.cells (fmCells x).toArray 32)) from (Below.refl _ _).alloc (Nat.le_refl _) _)
  have KO : ∀ w, Calls Tryz.prog 27 #[fmV x] w fun e w' => e = .returned (.iface 68 (rqV x.q)) ∧ Below w.heap.size w w' := fun w => by
    have h := of_any x w
    rw [show partV x = .iface 68 (rqV x.q) by unfold partV; rw [hk]; rfl] at h
    exact h
  have HS1 := Lib.hid (show (w.alloc (.cells (fmCells x).toArray 32)).heap.size = B + 1 by rw [World.size_alloc, hBB])
  clear hBB hk
  go_enter Tryz.func13, Tryz.ntmps13
  go_upto_region 1 with (fail)
  rw [← HB0.out]
  generalize w.alloc (.cells (fmCells x).toArray 32) = w1 at *
  have hs1 := HS1.out
  have O2 := Lib.hid (show IsObj (w1.alloc (.cells #[.int .i64 0, .int .i64 0, .int .i64 0, .int .i64 0, .int .i64 0, .int .i64 0, .int .i64 0] 26)) (B + 1) 26 [.int .i64 0, .int .i64 0, .int .i64 0, .int .i64 0, .int .i64 0, .int .i64 0, .int .i64 0] by rw [← hs1]; exact IsObj.new w1 26 [.int .i64 0, .int .i64 0, .int .i64 0, .int .i64 0, .int .i64 0, .int .i64 0, .int .i64 0])
  have B2 := Lib.hid (show Below w1.heap.size w1 (w1.alloc (.cells #[.int .i64 0, .int .i64 0, .int .i64 0, .int .i64 0, .int .i64 0, .int .i64 0, .int .i64 0] 26)) from (Below.refl _ _).alloc (Nat.le_refl _) _)
  have RG := Lib.hid (IsObj.range (O1.out.alloc (.cells #[.int .i64 0, .int .i64 0, .int .i64 0, .int .i64 0, .int .i64 0, .int .i64 0, .int .i64 0] 26)))
  have h1 := (show ∀ w, (Instr.typeAssert (.iface 68 (rqV x.q)) 54 71 true).run Tryz.prog w = .ok (.tuple #[.agg #[.int .i64 0, .int .i64 0, .int .i64 0, .int .i64 0, .int .i64 0, .int .i64 0, .int .i64 0], .bool false]) w from fun _ => by kernel_rfl)
  clear hs1
  go_upto_region 2 with (first | (refine wpList_load_mid (by rfl) 32 _ (by rfl) B 0 (by rfl) (fmCells x) _ (by exact RG.out) Tryz.underlying32 rfl (by kernel_rfl) ?_) | (go_at_call 27; refine (KO _).mono ?_; rintro e w2 ⟨rfl, b2⟩))
  have O3 := Lib.hid (show IsObj (w2.alloc (.cells #[.int .i64 0, .int .i64 0, .int .i64 0, .int .i64 0, .int .i64 0, .int .i64 0, .int .i64 0] 71)) (B + 1) 26 [.int .i64 0, .int .i64 0, .int .i64 0, .int .i64 0, .int .i64 0, .int .i64 0, .int .i64 0] from (IsObj.below O2.out b2 O2.out.lt).alloc _)
  have B3 := Lib.hid (show Below w.heap.size w (w2.alloc (.cells #[.int .i64 0, .int .i64 0, .int .i64 0, .int .i64 0, .int .i64 0, .int .i64 0, .int .i64 0] 71)) from (B1.out.trans ((B2.out.trans (b2.mono B2.out.size)).mono B1.out.size)).alloc (by have := B1.out.size; have := B2.out.size; have := b2.size; omega) _)
  have RT := Lib.hid (show (w2.alloc (.cells #[.int .i64 0, .int .i64 0, .int .i64 0, .int .i64 0, .int .i64 0, .int .i64 0, .int .i64 0] 71)).there (B + 1) 0 ([.int .i64 0, .int .i64 0, .int .i64 0, .int .i64 0, .int .i64 0, .int .i64 0, .int .i64 0] : List Value).toArray.size from IsObj.there O3.out 0 7 (Nat.le_refl _))
  have OF := Lib.hid (show IsObj ((w2.alloc (.cells #[.int .i64 0, .int .i64 0, .int .i64 0, .int .i64 0, .int .i64 0, .int .i64 0, .int .i64 0] 71)).setCells (B + 1) 0 ([.int .i64 0, .int .i64 0, .int .i64 0, .int .i64 0, .int .i64 0, .int .i64 0, .int .i64 0] : List Value).toArray.toList) (B + 1) 26 ([.int .i64 0, .int .i64 0, .int .i64 0, .int .i64 0, .int .i64 0, .int .i64 0, .int .i64 0] : List Value) from IsObj.setAll O3.out (by rfl))
  have YF := Lib.hid (show Only (B + 1) (w2.alloc (.cells #[.int .i64 0, .int .i64 0, .int .i64 0, .int .i64 0, .int .i64 0, .int .i64 0, .int .i64 0] 71)) ((w2.alloc (.cells #[.int .i64 0, .int .i64 0, .int .i64 0, .int .i64 0, .int .i64 0, .int .i64 0, .int .i64 0] 71)).setCells (B + 1) 0 ([.int .i64 0, .int .i64 0, .int .i64 0, .int .i64 0, .int .i64 0, .int .i64 0, .int .i64 0] : List Value).toArray.toList) from Only.setCells (b := B + 1) ([.int .i64 0, .int .i64 0, .int .i64 0, .int .i64 0, .int .i64 0, .int .i64 0, .int .i64 0] : List Value) 0 (Only.refl (B + 1) (w2.alloc (.cells #[.int .i64 0, .int .i64 0, .int .i64 0, .int .i64 0, .int .i64 0, .int .i64 0, .int .i64 0] 71))))
  clear b2 O1 O2 B2 RG KO
  go_wp2_with (refine wpList_store_mid (by rfl) 26 _ _ (by rfl) (B + 1) 0 ([.int .i64 0, .int .i64 0, .int .i64 0, .int .i64 0, .int .i64 0, .int .i64 0, .int .i64 0] : List Value).toArray (by rfl) (by rfl) (by exact RT.out) (by kernel_rfl) (by kernel_rfl) ?_; generalize (w2.alloc (.cells #[.int .i64 0, .int .i64 0, .int .i64 0, .int .i64 0, .int .i64 0, .int .i64 0, .int .i64 0] 71)).setCells (B + 1) 0 ([.int .i64 0, .int .i64 0, .int .i64 0, .int .i64 0, .int .i64 0, .int .i64 0, .int .i64 0] : List Value).toArray.toList = wf at *)
  have RL := run_loadVar_mid (P := Tryz.prog) wf (B + 1) 0 26 ([.int .i64 0, .int .i64 0, .int .i64 0, .int .i64 0, .int .i64 0, .int .i64 0, .int .i64 0] : List Value) _ (IsObj.range OF.out) Tryz.underlying26 rfl (by kernel_rfl)
  refine bodyPost_ret (v := .tuple #[.agg #[.int .i64 0, .int .i64 0, .int .i64 0, .int .i64 0, .int .i64 0, .int .i64 0, .int .i64 0], .bool false]) ?_ rfl ?_
  · exact results_cell_tmp (by rfl) (by rfl) (by rfl) RL
  · exact ⟨rfl, B3.out.trans (YF.out.below (by have := HB0.out; omega) B3.out.size)⟩
abbrev fmx : Fm := ⟨1, rqx, a0, p0⟩
set_option maxRecDepth 100000 in
theorem text_x (x : Fm) (hk : x.k = 1) (hq : x.q = rqx) (w : World) : Calls Tryz.prog 15 #[fmV x] w fun e w' => e = .returned (.string lineX) ∧ Below w.heap.size w w' := by
  have hm : ∀ w, (method 284 68 (rqV x.q) "lockkeeper/frame.text").run Tryz.prog w = .ok (126, rqV x.q) w := fun _ => by kernel_rfl
  have KT : ∀ w, Calls Tryz.prog 126 #[rqV x.q] w fun e w' => e = .returned (.string lineX) ∧ Below w.heap.size w w' := fun w => by rw [hq]; exact text_q w
  clear hq
  obtain ⟨B, hBB⟩ : ∃ B, B = w.heap.size := ⟨_, rfl⟩
  have HB0 := Lib.hid hBB
  have O1 := Lib.hid (show IsObj (w.alloc (.cells (fmCells x).toArray 32)) B 32 (fmCells x) by rw [hBB]; exact IsObj.new w _ (fmCells x))
  have B1 := Lib.hid (show Below w.heap.size w (w.alloc (.cells (fmCells x).toArray 32)) from (Below.refl _ _).alloc (Nat.le_refl _) _)
  have KO : ∀ w, Calls Tryz.prog 27 #[fmV x] w fun e w' => e = .returned (.iface 68 (rqV x.q)) ∧ Below w.heap.size w w' := fun w => by
    have h := of_any x w
    rw [show partV x = .iface 68 (rqV x.q) by unfold partV; rw [hk]; rfl] at h
    exact h
  have HS1 := Lib.hid (show (w.alloc (.cells (fmCells x).toArray 32)).heap.size = B + 1 by rw [World.size_alloc, hBB])
  clear hBB hk
  go_enter Tryz.func15, Tryz.ntmps15
  go_upto_region 1 with (fail)
  rw [← HB0.out]
  generalize w.alloc (.cells (fmCells x).toArray 32) = w1 at *
  have RG := Lib.hid (IsObj.range O1.out)
  go_wp2_with (first | (refine wpList_load_mid (by rfl) 32 _ (by rfl) B 0 (by rfl) (fmCells x) _ (by exact RG.out) Tryz.underlying32 rfl (by kernel_rfl) ?_) | (go_at_call 27; refine (KO _).mono ?_; rintro e w2 ⟨rfl, b2⟩) | (go_at_call 126; refine (KT _).mono ?_; rintro e w3 ⟨rfl, b3⟩))
  go_ret
  exact ⟨rfl, B1.out.trans ((b2.trans (b3.mono b2.size)).mono B1.out.size)⟩
end Go.Proofs.YtobcjbpgeohbgaaGreatDoor
