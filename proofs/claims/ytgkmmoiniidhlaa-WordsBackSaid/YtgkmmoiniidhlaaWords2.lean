/-
  words.parted and what stands on it: Lines, Words; the document's Lines and Words; Same.
-/
import Derived.Test.YtgkmmoiniidhlaaWords
import Derived.WalkMore
namespace Go.Proofs.Ytgkmmoiniidhlaa
open Go.RowKit
set_option linter.unusedVariables false
set_option linter.unusedSimpArgs false

/-- A row of texts, one a cell. -/
def strCells (x : ByteArray) : List Value := [.string x]
theorem strCells_len (x : ByteArray) : (strCells x).length = 1 := rfl
theorem info_str : (Try.prog.info? 9).map (fun i => (i.zero, i.size, i.bytes)) = some (some (.string ⟨#[]⟩), 1, 16) := by kernel_rfl
theorem flatS_at (l : List ByteArray) : ∀ i, i < l.length → (l.flatMap strCells)[i]? = some (.string (nth l i)) := by
  induction l with
  | nil => intro i hi; simp at hi
  | cons x l ih =>
    intro i hi
    rw [List.flatMap_cons]
    cases i with
    | zero => rfl
    | succ i =>
      have := ih i (by simpa using hi)
      simpa [strCells, nth] using this
/-- v is a row of texts. -/
def StrsAt (w : World) (v : Value) (l : List ByteArray) : Prop := ∃ a c, v = .slice a l.length c ∧ l.length ≤ c ∧ c ≤ 9223372036854775807 ∧ RowOf strCells 1 w a l
theorem StrsAt.same {w w' : World} {v : Value} {l : List ByteArray} (h : StrsAt w v l) (hb : Below w.heap.size w w') : StrsAt w' v l := by
  obtain ⟨a, c, h1, h2, h3, h4⟩ := h
  exact ⟨a, c, h1, h2, h3, h4.same strCells_len hb⟩
theorem StrsAt.nil (w : World) : StrsAt w (.slice none 0 0) [] := ⟨none, 0, rfl, Nat.le_refl _, by omega, .inl rfl⟩
theorem str_of_own {w : World} {base n : Nat} {e : TypeId} {v : Value} {l : List ByteArray} (h : w.ownsRow base e 1 v n (l.flatMap strCells)) (hn : n = l.length) : StrsAt w v l := by
  subst hn
  rcases h.2 with ⟨rfl, h0⟩ | ⟨g, cap, cur, rfl, hb, hg, hnc, hcm, hcs, htake⟩
  · exact ⟨none, 0, by rw [h0], by omega, by omega, .inl (List.eq_nil_of_length_eq_zero h0)⟩
  · refine ⟨_, cap, rfl, hnc, hcm, .inr ⟨g, 0, rfl, fun i hi j hj => ?_⟩⟩
    obtain rfl : j = 0 := by omega
    have := World.ownsRow.cellAt h i (by omega)
    rw [Nat.mul_one, Nat.add_zero, Nat.zero_add, this, flatS_at l i hi]
    rfl
theorem str_cell {w : World} {b off : Nat} {l : List ByteArray} (h : ∀ i, i < l.length → ∀ j, j < 1 → w.cell? ⟨b, off + i * 1 + j, none⟩ = (strCells (nth l i))[j]?) (i : Nat) (hi : i < l.length) :
    w.cell? ⟨b, off + i, none⟩ = some (.string (nth l i)) := by
  have := h i hi 0 (by omega)
  simpa [strCells] using this
theorem own_iterAt {w : World} {base n : Nat} {e : TypeId} {v : Value} {xs : List Value} (h : w.ownsRow base e 1 v n xs) {k : Nat} (hk : k < base) (s : ByteArray) (pos : Nat) : (w.iterAt k s pos).ownsRow base e 1 v n xs := by
  rcases h.2 with h2 | ⟨g, cap, cur, h1, h2, hg, h3⟩
  · exact ⟨h.1, .inl h2⟩
  · exact ⟨h.1, .inr ⟨g, cap, cur, h1, h2, (Lib.iterAt_other w k g s pos (by omega)).trans hg, h3⟩⟩

theorem str_own_add {w : World} {base : Nat} {e : TypeId} {v : Value} {out L : List ByteArray} {x y : ByteArray} (h : w.ownsRow base e 1 v (out.length + 1) (out.flatMap strCells ++ [.string x])) (hx : x = y) (hL : L = out ++ [y]) : StrsAt w v L := by
  subst hL hx
  refine str_of_own (l := out ++ [x]) (base := base) (e := e) (n := out.length + 1) ?_ (by simp)
  rw [List.flatMap_append]
  simpa [strCells] using h

/-! ### What parts, and what ends -/
def isFeed (b : Nat) : Bool := b == 10
def isGap (b : Nat) : Bool := b == 32 || b == 9
theorem feed_any (c : Nat) (w : World) : Calls Try.prog 94 #[.int .i32 (c : Int)] w fun e w' => e = .returned (.bool (isFeed c)) ∧ w = w' := by
  by_cases h : c = 10
  · subst h
    go_enter Try.func94, Try.ntmps94
    go_wp2
    go_ret
    exact ⟨rfl, rfl⟩
  · have h1 : ((c : Int) == 10) = false := by simp; omega
    go_enter Try.func94, Try.ntmps94
    go_wp2
    go_ret
    exact ⟨ret_bool (by simp [isFeed]; omega), rfl⟩
theorem gap_any (c : Nat) (w : World) : Calls Try.prog 95 #[.int .i32 (c : Int)] w fun e w' => e = .returned (.bool (isGap c)) ∧ w = w' := by
  by_cases h : c = 32
  · subst h
    go_enter Try.func95, Try.ntmps95
    go_wp2
    go_ret
    exact ⟨rfl, rfl⟩
  · by_cases h' : c = 9
    · subst h'
      go_enter Try.func95, Try.ntmps95
      go_wp2
      go_ret
      exact ⟨rfl, rfl⟩
    · have h1 : ((c : Int) == 32) = false := by simp; omega
      have h2 : ((c : Int) == 9) = false := by simp; omega
      go_enter Try.func95, Try.ntmps95
      go_wp2
      go_ret
      exact ⟨ret_bool (by simp [isGap]; omega), rfl⟩

def eqB (n : Int) (b : Nat) : Bool := decide ((b : Int) = n)
/-- The parts of a text between bytes that part it, up to one that ends it. -/
def partsOf (p : Nat → Bool) (ends : Int) (s : ByteArray) : List ByteArray := (parts p s (firstAt (eqB ends) s)).1 ++ [s.extract (parts p s (firstAt (eqB ends) s)).2 (firstAt (eqB ends) s)]

/-- A letter tells of a byte: what holds of no letter above 127 holds of the letter as of its first byte, and of no other byte of it. -/
theorem letter {s : ByteArray} {pos c wd : Nat} (h : pos < s.size) (hcw : Utf8.decode s pos = (c, wd)) (q : Nat → Bool) (hq : ∀ x, 128 ≤ x → q x = false) :
    q c = q (sbyte s pos) ∧ (q c = true → wd = 1) ∧ ∀ j, 1 ≤ j → j < wd → q (sbyte s (pos + j)) = false := by
  obtain ⟨_, _, h3⟩ := decode_width s pos h
  rw [hcw] at h3
  refine ⟨?_, ?_, fun j a b => hq _ (h3 j a b)⟩
  · by_cases ha : sbyte s pos < 128
    · rw [decode_low s pos h ha] at hcw
      injection hcw with e1 e2
      rw [e1]
    · have := decode_up s pos h (by omega)
      rw [hcw] at this
      rw [hq _ this, hq _ (by omega)]
  · intro hc
    by_cases ha : sbyte s pos < 128
    · rw [decode_low s pos h ha] at hcw
      injection hcw with e1 e2
      exact e2.symm
    · have := decode_up s pos h (by omega)
      rw [hcw] at this
      rw [hq _ this] at hc
      cases hc

set_option maxRecDepth 100000 in
set_option maxHeartbeats 4000000 in
theorem parted_any (fp : Nat) (efp : ∀ args w, (callFunc fp args).run Try.prog w = .ok (.enter fp args) w) (p : Nat → Bool) (hp : ∀ c : Nat, 128 ≤ c → p c = false)
    (hF : ∀ (c : Nat) (W : World), Calls Try.prog fp #[.int .i32 (c : Int)] W fun e w' => e = .returned (.bool (p c)) ∧ W = w') (s : ByteArray) (ends : Int) (he : ends < 128) (w : World) (hs : s.size ≤ 10000) :
    Calls Try.prog 93 #[.string s, .func (.func fp) #[] #[], .int .i32 ends] w fun e w' => ∃ v, e = .returned v ∧ StrsAt w' v (partsOf p ends s) ∧ Below w.heap.size w w' := by
  obtain ⟨i0, hi, hz0, hz1, hz2⟩ := info_parts info_str
  obtain ⟨H, hH⟩ : ∃ H, H = w.heap.size := ⟨_, rfl⟩
  have HH := Lib.hid hH
  go_enter Try.func93, Try.ntmps93
  go_wp2
  go_step3
  go_wp2
  go_step3
  go_wp2
  go_loopw [0, 7, 8, 9, 10] (fun s0 v f i c wr => ∃ (pos : Nat), pos ≤ s.size ∧ s0 = .string s ∧ f = .int .i64 ((parts p s pos).2 : Nat) ∧ (∀ j, j < pos → eqB ends (sbyte s j) = false) ∧ wr.heap[w.heap.size]? = some (.stringIter s pos) ∧ wr.ownsRow (w.heap.size + 1) 9 1 v (parts p s pos).1.length ((parts p s pos).1.flatMap strCells) ∧ Below w.heap.size w wr) (fun _ _ _ _ _ wr => s.size - wr.iterPos w.heap.size)
  case atStart =>
    refine ⟨0, Nat.zero_le _, rfl, rfl, fun j h => by omega, ?_, World.ownsRow_nil _ _ _ _, (Below.refl _ w).alloc (Nat.le_refl _) _⟩
    simpa using World.iter_heap w s 0
  case round =>
    obtain ⟨pos, hpos, rfl, rfl, hno, hit, hown, hb⟩ := hrel
    have hsz : w.heap.size + 1 ≤ wr.heap.size := (Array.getElem?_eq_some_iff.1 hit).1
    have hfl := parts_le p s pos
    have hol := parts_len p s pos
    have HO := Lib.hid hown
    have HB := Lib.hid hb
    have HI := Lib.hid hit
    have HN := Lib.hid hno
    clear hown hb hno
    by_cases hp' : pos < s.size
    · obtain ⟨c, wd, hcw⟩ : ∃ c wd, Utf8.decode s pos = (c, wd) := ⟨_, _, rfl⟩
      have hwd := decode_width s pos hp'
      have hnx : ∀ ty, (Instr.next (.pointer (some ⟨w.heap.size, 0, none⟩)) true ty).run Try.prog wr = _ := fun ty => Lib.run_next_any_at wr w.heap.size s pos ty hit hp'
      obtain ⟨lp1, lp2, lp3⟩ := letter hp' hcw p hp
      obtain ⟨le1, le2, le3⟩ := letter hp' hcw (eqB ends) (fun x hx => by simp [eqB]; omega)
      rw [hcw] at hnx hwd
      dsimp only at hnx hwd
      have hI2 := Lib.hid (Lib.iterAt_heap wr w.heap.size s pos (pos + wd) hit)
      have hO2 := Lib.hid (own_iterAt HO.out (k := w.heap.size) (by omega) s (pos + wd))
      have hB2 := Lib.hid (Lib.below_iterAt HB.out (k := w.heap.size) (Nat.le_refl _) s (pos + wd))
      have hs2 : w.heap.size + 1 ≤ (wr.iterAt w.heap.size s (pos + wd)).heap.size := by rw [Lib.iterAt_size]; exact hsz
      have HP := Lib.hid (show (p (sbyte s pos) = true → parts p s (pos + 1) = ((parts p s pos).1 ++ [s.extract (parts p s pos).2 pos], pos + 1)) from parts_yes)
      have HS := Lib.hid (show ((∀ j, j < wd → p (sbyte s (pos + j)) = false) → parts p s (pos + wd) = parts p s pos) from parts_skip wd)
      clear hit
      have hE : eqB ends c = true → partsOf p ends s = (parts p s pos).1 ++ [s.extract (parts p s pos).2 pos] := fun h => by
        rw [partsOf, first_eq (eqB ends) s pos hp' HN.out (by rw [← le1]; exact h)]
      have hX2 : (s.extract 0 pos).extract (parts p s pos).2 pos = s.extract (parts p s pos).2 pos := extract_extract s _ _ _ (Nat.le_refl _)
      have hX3 : (s.extract 0 pos).size = pos := by rw [size_extract' _ _ _ (by omega)]; rfl
      have HE := Lib.hid hE
      have HX := Lib.hid hX2
      have HL1 := Lib.hid le1
      have HL3 := Lib.hid le3
      have HP2 := Lib.hid lp2
      have HP1 := Lib.hid lp1
      have HP3 := Lib.hid lp3
      have HE2 := Lib.hid le2
      clear hE hX2 le1 le3 lp2 lp1 lp3 le2 HO HB
      generalize hpa : parts p s pos = pa at *
      obtain ⟨out, fr⟩ := pa
      dsimp only at hfl hol HE HX HP HS hO2 ⊢
      have HPA := Lib.hid hpa
      clear hpa
      by_cases hce : (c : Int) = ends
      · have hce1 : ((c : Int) == ends) = true := by simp [hce]
        have HCE := Lib.hid (show eqB ends c = true by simp [eqB, hce])
        clear hce
        go_wp2_with (first
          | (at_builtin; refine wpList_append_one (by rfl) _ _ 89 (by rfl) (w.heap.size + 1) 9 i0 (.string ⟨#[]⟩) 1 16 Try.underlying89 hi hz0 hz1 hz2 rfl (by decide) _ _ _ _ (by rfl) hO2.out (by rfl) (by rfl) (by rfl) (by omega) (by omega) hs2 ?_; intro v' w1 hown1 hb1))
        go_ret
        exact ⟨v', rfl, str_own_add hown1 HX.out (HE.out HCE.out), hB2.out.trans (hb1.mono (by omega))⟩
      · have hce1 : ((c : Int) == ends) = false := by simp [hce]
        have HCE := Lib.hid (show eqB ends c = false by simp [eqB, hce])
        have hnx2 : ∀ j, j < pos + wd → eqB ends (sbyte s j) = false := by
          intro j hj
          by_cases h1 : j < pos
          · exact HN.out j h1
          · obtain ⟨d, rfl⟩ : ∃ d, j = pos + d := ⟨j - pos, by omega⟩
            by_cases h0 : d = 0
            · subst h0
              rw [Nat.add_zero, ← HL1.out]
              exact HCE.out
            · exact HL3.out d (by omega) (by omega)
        have HNX := Lib.hid hnx2
        clear hnx2
        clear hce
        by_cases hpc : p c = true
        · have hw1 := HP2.out hpc
          subst hw1
          have HPP := Lib.hid (HP.out (by rw [← HP1.out]; exact hpc))
          go_wp2_with fail
          refine (hF c _).mono ?_
          rintro e w' ⟨rfl, rfl⟩
          go_wp2_with (first
            | (at_builtin; refine wpList_append_one (by rfl) _ _ 89 (by rfl) (w.heap.size + 1) 9 i0 (.string ⟨#[]⟩) 1 16 Try.underlying89 hi hz0 hz1 hz2 rfl (by decide) _ _ _ _ (by rfl) hO2.out (by rfl) (by rfl) (by rfl) (by omega) (by omega) hs2 ?_; intro v' w1 hown1 hb1))
          go_roundw
          case rel =>
            refine ⟨pos + 1, by omega, rfl, by rw [HPP.out]; go_num, HNX.out, (hb1.block _ (by omega)).trans hI2.out, ?_, hB2.out.trans (hb1.mono (by omega))⟩
            rw [HPP.out]
            simpa [strCells] using hown1
          case measure =>
            simp only [World.iterPos, (hb1.block _ (by omega)).trans hI2.out, HI.out]
            omega
        · have hpc1 : p c = false := by simpa using hpc
          clear hpc
          have HPP := Lib.hid (HS.out (fun j hj => by
            by_cases h0 : j = 0
            · subst h0
              rw [Nat.add_zero, ← HP1.out]
              exact hpc1
            · exact HP3.out j (by omega) hj))
          go_wp2_with fail
          refine (hF c _).mono ?_
          rintro e w' ⟨rfl, rfl⟩
          go_wp2
          go_roundw
          case rel =>
            refine ⟨pos + wd, by omega, rfl, by rw [HPP.out], HNX.out, hI2.out, ?_, hB2.out⟩
            rw [HPP.out]
            exact hO2.out
          case measure =>
            simp only [World.iterPos, hI2.out, HI.out]
            omega
    · obtain rfl : pos = s.size := by omega
      have hnx : ∀ ty, (Instr.next (.pointer (some ⟨w.heap.size, 0, none⟩)) true ty).run Try.prog wr = _ := fun ty => Lib.run_next_end_at wr w.heap.size s s.size ty HI.out hp'
      have HE := Lib.hid (show partsOf p ends s = (parts p s s.size).1 ++ [s.extract (parts p s s.size).2 s.size] by rw [partsOf, first_none (eqB ends) s HN.out])
      clear hit
      generalize hpa : parts p s s.size = pa at *
      obtain ⟨out, fr⟩ := pa
      dsimp only at hfl hol HE HO ⊢
      go_wp2_with (first
        | (at_builtin; refine wpList_append_one (by rfl) _ _ 89 (by rfl) (w.heap.size + 1) 9 i0 (.string ⟨#[]⟩) 1 16 Try.underlying89 hi hz0 hz1 hz2 rfl (by decide) _ _ _ _ (by rfl) HO.out (by rfl) (by rfl) (by rfl) (by omega) (by omega) hsz ?_; intro v' w1 hown1 hb1))
      go_ret
      exact ⟨v', rfl, str_own_add hown1 rfl HE.out, HB.out.trans (hb1.mono (by omega))⟩
end Go.Proofs.Ytgkmmoiniidhlaa
