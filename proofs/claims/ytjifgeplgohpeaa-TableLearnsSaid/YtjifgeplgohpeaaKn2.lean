/-
  Rows of what is known: the document's Same (of one row, told twice), Cuts; table.Table.All and Clear.
-/
import Derived.Test.YtjifgeplgohpeaaKn
import Derived.Deep.MidRow
namespace Go.Proofs.Ytjifgeplgohpeaa
open Go.RowKit
set_option linter.unusedVariables false

set_option maxRecDepth 100000 in
set_option maxHeartbeats 1000000 in
theorem ksame_eq (a1 a2 : Option Addr) (c1 c2 : Nat) (l : List Kn) (w : World) (m1 : l.length ≤ 1000) (h1 : RowOf knCells 4 w a1 l) (h2 : RowOf knCells 4 w a2 l) :
    Calls Try.prog 23 #[.slice a1 l.length c1, .slice a2 l.length c2] w fun e w' => e = .returned (.bool true) ∧ Below w.heap.size w w' := by
  rcases h1 with rfl | ⟨b1, o1, rfl, hc1⟩
  · go_enter Try.func23, Try.ntmps23
    go_wp2
    go_loop [5] (fun i => i = .int .i64 0) (fun _ => 0)
    case atStart => rfl
    case round =>
      subst hrel
      go_wp2
      go_ret
      exact ⟨rfl, Below.refl _ _⟩
  · rcases h2 with rfl | ⟨b2, o2, rfl, hc2⟩
    · go_enter Try.func23, Try.ntmps23
      go_wp2
      go_loop [5] (fun i => i = .int .i64 0) (fun _ => 0)
      case atStart => rfl
      case round =>
        subst hrel
        go_wp2
        go_ret
        exact ⟨rfl, Below.refl _ _⟩
    · have HC1 := Lib.hid hc1
      have HC2 := Lib.hid hc2
      clear hc1 hc2
      go_enter Try.func23, Try.ntmps23
      go_wp2
      go_loopw [5] (fun i wr => ∃ k n : Nat, k ≤ l.length ∧ i = .int .i64 k ∧ wr = w.drewN n) (fun i _ => l.length - (intOf i).toNat)
      case atStart => exact ⟨0, 0, Nat.zero_le _, rfl, rfl⟩
      case round =>
        obtain ⟨k, n, hk, rfl, rfl⟩ := hrel
        by_cases hlt : k < l.length
        · obtain ⟨g0, g1, g2, g3⟩ := kn_cells HC1.out k hlt
          obtain ⟨d0, d1, d2, d3⟩ := kn_cells HC2.out k hlt
          have i1 : (0 : Int) ≤ (k : Int) := by omega
          have i2 : (k : Int) < (l.length : Int) := by omega
          generalize nth l k = x at *
          go_wp2_with fail
          go_quiet (fail)
          go_wp2
          exact ⟨⟨k + 1, _, by omega, by go_num, rfl⟩, by simp only [intOf]; omega⟩
        · obtain rfl : k = l.length := by omega
          go_wp2
          go_ret
          exact ⟨rfl, below_drewN (Below.refl _ _) _⟩

/-! ### table.Table.All -/
theorem own_below {w w' : World} {base : Nat} {e : TypeId} {size n : Nat} {v : Value} {xs : List Value} (h : w.ownsRow base e size v n xs) (hb : Below w.heap.size w w') : w'.ownsRow base e size v n xs := by
  rcases h.2 with ⟨h1, h2⟩ | ⟨g, cap, cur, h1, h2, hg, h3⟩
  · exact ⟨h.1, .inl ⟨h1, h2⟩⟩
  · exact ⟨h.1, .inr ⟨g, cap, cur, h1, h2, (hb.block g (Array.getElem?_eq_some_iff.1 hg).1).trans hg, h3⟩⟩
set_option maxRecDepth 100000 in
set_option maxHeartbeats 1000000 in
theorem tall_any (b : Nat) (ttl : Int) (f : Ents) (now : Int) (w : World) (h : TableAt w b ttl f) : Calls Try.prog 24 #[.pointer (some ⟨b, 0, none⟩), .int .i64 now] w (GivesKn w (knL (knNow f ttl now))) := by
  obtain ⟨i0, hi, hz0, hz1, hz2⟩ := info_parts info_kn
  have H := Lib.hid h
  clear h
  go_enter Try.func24, Try.ntmps24
  go_wp2_with fail
  go_loopw [5, 6, 9] (fun v q i wr => ∃ (k : Nat), k ≤ 8 ∧ i = .int .i64 k ∧ wr.ownsRow w.heap.size 36 4 v (knU (knNow f ttl now) k).length ((knU (knNow f ttl now) k).flatMap knCells) ∧ Below w.heap.size w wr) (fun _ _ i _ => (8 - intOf i).toNat)
  case atStart => exact ⟨0, by omega, rfl, World.ownsRow_nil _ _ _ _, Below.refl _ _⟩
  case round =>
    obtain ⟨k, k8, rfl, hown, hb⟩ := hrel
    have HO := Lib.hid hown
    have HB := Lib.hid hb
    have HR := Lib.hid (H.out.same hb)
    have hsz := hb.size
    have hlen := knU_len (knNow f ttl now) k
    clear hb hown
    by_cases hlt : k < 8
    · have HS := Lib.hid (show knU (knNow f ttl now) (k + 1) = knU (knNow f ttl now) k ++ (match knNow f ttl now k with | none => [] | some e => [knOf k e]) from rfl)
      have hG := get_any b ttl f k now wr HR.out
      have hd : knNow f ttl now k = kn f ttl (k : Int) now := rfl
      have i1 : (0 : Int) ≤ (k : Int) := by omega
      have i2 : (k : Int) < 8 := by omega
      cases hk : kn f ttl (k : Int) now with
      | none =>
        rw [hk] at hG hd
        rw [hd] at HS
        unfold kv Option.isSome at hG
        have HG := Lib.hid hG
        clear hG hd hk
        go_wp2_with (go_at_call 21; refine HG.out.mono ?_; rintro e w1 ⟨rfl, hb1⟩)
        exact ⟨⟨k + 1, by omega, by go_num, by rw [HS.out, List.append_nil]; exact (own_below HO.out hb1).alloc _, (HB.out.trans (hb1.mono hsz)).alloc (by have := hb1.size; omega) _⟩, by simp only [intOf]; omega⟩
      | some e0 =>
        rw [hk] at hG hd
        rw [hd] at HS
        unfold kv Option.isSome at hG
        have HG := Lib.hid hG
        have hl2 : (knU (knNow f ttl now) (k + 1)).length = (knU (knNow f ttl now) k).length + 1 := by rw [HS.out]; simp
        have hf2 : (knU (knNow f ttl now) (k + 1)).flatMap knCells = (knU (knNow f ttl now) k).flatMap knCells ++ knCells (knOf k e0) := by rw [HS.out]; simp
        have HL2 := Lib.hid hl2
        have HF2 := Lib.hid hf2
        clear hG hd hk hl2 hf2
        go_wp2_with fail
        refine HG.out.mono ?_
        rintro e w1 ⟨rfl, hb1⟩
        have hbx := (HB.out.trans (hb1.mono hsz)).alloc (by have := hb1.size; omega) (.cells #[.int .i64 k, .int .i64 e0.th, .int .i64 e0.ep, .int .i64 e0.tm] 36)
        have HOx := Lib.hid ((own_below HO.out hb1).alloc (.cells #[.int .i64 k, .int .i64 e0.th, .int .i64 e0.ep, .int .i64 e0.tm] 36))
        have HBx := Lib.hid hbx
        have hszx := hbx.size
        have hal : w1.heap.size + 1 = (w1.alloc (.cells #[.int .i64 k, .int .i64 e0.th, .int .i64 e0.ep, .int .i64 e0.tm] 36)).heap.size := by simp
        have HAl := Lib.hid hal
        clear hbx HO hal
        go_wp2_with (first
          | (at_builtin; rw [HAl.out]; refine wpList_append_one (by rfl) _ _ 28 (by rfl) w.heap.size 36 i0 (.agg #[.int .i64 0, .int .i64 0, .int .i64 0, .int .i64 0]) 4 32 Try.underlying28 hi hz0 hz1 hz2 rfl (by decide) _ _ _ _ (by rfl) HOx.out (by rfl) (by rfl) (by rfl) (by omega) (by omega) hszx ?_; intro v' w2 hown2 hb2))
        exact ⟨⟨k + 1, by omega, by go_num, by rw [HL2.out, HF2.out]; exact hown2, HBx.out.trans hb2⟩, by simp only [intOf]; omega⟩
    · obtain rfl : k = 8 := by omega
      go_wp2
      go_ret
      exact ⟨_, rfl, kn_of_own HO.out rfl, HB.out⟩
/-! ### Clear -/
theorem IsObj.there {w : World} {b : Nat} {ty : TypeId} {cs : List Value} (h : IsObj w b ty cs) (o n : Nat) (hn : o + n ≤ cs.length) : w.there b o n := by
  intro j hj
  refine ⟨?_, IsObj.free h _⟩
  rw [IsObj.cell h]
  simp; omega
theorem IsObj.setCells {b : Nat} {ty : TypeId} (vs : List Value) : ∀ (o : Nat) {w : World} {cs : List Value}, IsObj w b ty cs → o + vs.length ≤ cs.length → IsObj (w.setCells b o vs) b ty (cs.take o ++ vs ++ cs.drop (o + vs.length)) := by
  induction vs with
  | nil => intro o w cs h hl; simpa [World.setCells] using h
  | cons v vs ih =>
    intro o w cs h hl
    have h1 := ih (o + 1) (h.set o v) (by simp at hl ⊢; omega)
    have e : (cs.set o v).take (o + 1) ++ vs ++ (cs.set o v).drop (o + 1 + vs.length) = cs.take o ++ (v :: vs) ++ cs.drop (o + (v :: vs).length) := by
      simp only [List.length_cons] at hl ⊢
      rw [List.drop_set_of_lt (by omega), List.take_set, List.take_succ_eq_append_getElem (by omega), List.set_append_right _ _ (by simp; omega)]
      simp [Nat.min_eq_left (show o ≤ cs.length by omega)]
      congr 1
      omega
    rw [e] at h1
    exact h1
theorem Only.setCells {b : Nat} (vs : List Value) : ∀ (o : Nat) {u w : World}, Only b u w → Only b u (w.setCells b o vs) := by
  induction vs with
  | nil => intro o u w h; exact h
  | cons v vs ih => intro o u w h; exact ih (o + 1) (h.setCell (.inl rfl) v)

theorem tabCells_drop (ttl : Int) (f : Ents) : (tabCells ttl f).length = 42 := by
  unfold tabCells tabL allL
  simp [entCells_len]
set_option maxRecDepth 100000 in
theorem tclear_any (b : Nat) (ttl : Int) (f : Ents) (w : World) (h : TableAt w b ttl f) : Calls Try.prog 19 #[.pointer (some ⟨b, 0, none⟩)] w fun e w' => e = .returned (.tuple #[]) ∧ TableAt w' b ttl (fun _ => none) ∧ Only b w w' := by
  have ht : w.there b 2 (allL (fun _ => entCells 0 none)).toArray.size := IsObj.there h 2 40 (by rw [tabCells_drop]; decide)
  have h2 := IsObj.setCells (allL (fun _ => entCells 0 none)) 2 h (by rw [tabCells_drop]; decide)
  have h3 := Only.setCells (b := b) (allL (fun _ => entCells 0 none)) 2 (Only.refl b w)
  have he : (tabCells ttl f).take 2 ++ allL (fun _ => entCells 0 none) ++ (tabCells ttl f).drop (2 + (allL (fun _ => entCells 0 none)).length) = tabCells ttl (fun _ => none) := by
    rw [List.drop_eq_nil_of_le (by rw [tabCells_drop]; decide), List.append_nil]
    rfl
  rw [he] at h2
  have HT := Lib.hid ht
  have H2 := Lib.hid h2
  have H3 := Lib.hid h3
  clear h2 h3 h ht he
  go_enter Try.func19, Try.ntmps19
  go_wp2_with (refine wpList_store_mid (by rfl) 47 _ _ (by rfl) b 2 (allL (fun _ => entCells 0 none)).toArray (by rfl) (by rfl) HT.out (by kernel_rfl) (by kernel_rfl) ?_)
  go_end0
  exact ⟨rfl, H2.out, H3.out⟩
end Go.Proofs.Ytjifgeplgohpeaa
