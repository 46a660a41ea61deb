/-
  Layer 27 (frame): a frame comes back from its bytes, and bytes are those of their frame, in plain.
-/
import Derived.Test.YtobcjbpgeohbgaaGreatDoorFr5
import Derived.Test.YtobcjbpgeohbgaaGreatDoorHead5
namespace Go.Proofs.YtobcjbpgeohbgaaGreatDoor
open Go.RowKit
set_option linter.unusedVariables false
set_option linter.unusedSimpArgs false

theorem byte_of (s : ByteArray) (k n : Nat) (hk : k < s.size) (h : sb s k = n) : (bl s)[k]? = some (byteOf (n : Int)) := by
  have hl : k < (bl s).length := by rw [bl_len]; exact hk
  rw [List.getElem?_eq_getElem hl]
  congr 1
  apply UInt8.toNat_inj.1
  have h1 : sb s k = ((bl s)[k]).toNat := by
    unfold sb
    rw [List.getD_eq_getElem?_getD, List.getElem?_eq_getElem hl]
    rfl
  have h2 := byteOf_toNat (n : Int)
  have h3 := sb_lt s k
  rw [← h1, h]
  omega
theorem take4 (s : ByteArray) (a b c d : UInt8) (h0 : (bl s)[0]? = some a) (h1 : (bl s)[1]? = some b) (h2 : (bl s)[2]? = some c) (h3 : (bl s)[3]? = some d) : (bl s).take 4 = [a, b, c, d] := by
  generalize bl s = l at *
  match l with
  | x :: y :: z :: u :: r =>
    simp only [List.getElem?_cons_zero, List.getElem?_cons_succ, Option.some.injEq] at h0 h1 h2 h3
    subst h0 h1 h2 h3
    rfl
  | [] => simp at h0
  | [x] => simp at h1
  | [x, y] => simp at h2
  | [x, y, z] => simp at h3
/-- Bytes that are a frame's are the bytes of that kind and body. -/
theorem put_getH (s : ByteArray) (h : (getH s).err = 0) : (1 ≤ (getH s).kind ∧ (getH s).kind ≤ 3) ∧ (getH s).body.size ≤ 200 ∧ frS (getH s).kind (getH s).body = s := by
  have hg : (firstB s).err = 0 ∧ ¬ (firstB s).n < (s.size : Int) ∧ getH s = ⟨(firstB s).kind, (firstB s).body, 0⟩ := by
    unfold getH at h ⊢
    by_cases h1 : (firstB s).err ≠ 0
    · rw [if_pos h1] at h
      exact absurd h h1
    · rw [if_neg h1] at h ⊢
      by_cases h2 : (firstB s).n < (s.size : Int)
      · rw [if_pos h2] at h
        exact absurd h (by decide)
      · rw [if_neg h2]
        exact ⟨by simpa using h1, h2, rfl⟩
  obtain ⟨g1, g2, g3⟩ := hg
  rw [g3]
  show (1 ≤ (firstB s).kind ∧ (firstB s).kind ≤ 3) ∧ (firstB s).body.size ≤ 200 ∧ frS (firstB s).kind (firstB s).body = s
  have hw : wrongN s = 0 := by
    by_cases hw : wrongN s = 0
    · exact hw
    · unfold firstB at g1
      rw [if_pos hw] at g1
      exact absurd g1 hw
  have hn : ¬ s.size < 6 + sb s 3 := by
    intro hn
    unfold firstB at g1
    rw [if_neg (by simpa using hw), if_pos hn] at g1
    exact absurd g1 (by decide)
  have ho : (openB (s.extract 0 (6 + sb s 3))).err = 0 := by
    by_cases ho : (openB (s.extract 0 (6 + sb s 3))).err = 0
    · exact ho
    · unfold firstB at g1
      rw [if_neg (by simpa using hw), if_neg hn, if_pos ho] at g1
      exact absurd g1 (by decide)
  have hf : firstB s = ⟨(sb s 2 : Nat), s.extract 4 (4 + sb s 3), ((6 + sb s 3 : Nat) : Int), 0⟩ := by
    unfold firstB
    rw [if_neg (by simpa using hw), if_neg hn, if_neg (by simpa using ho)]
  rw [hf] at g2 ⊢
  simp only at g2 ⊢
  obtain ⟨h4, c0, c1, c2, c2', c3⟩ : 4 ≤ s.size ∧ sb s 0 = 183 ∧ sb s 1 = 1 ∧ 1 ≤ sb s 2 ∧ sb s 2 ≤ 3 ∧ sb s 3 ≤ 200 := by
    rcases wrong_cases s with ⟨_, e⟩ | ⟨_, e⟩ | ⟨_, e⟩ | ⟨_, e⟩ | ⟨_, e⟩ | ⟨r, _⟩
    · rw [hw] at e; cases e
    · rw [hw] at e; cases e
    · rw [hw] at e; cases e
    · rw [hw] at e; cases e
    · rw [hw] at e; cases e
    · exact r
  have hsz : s.size = 6 + sb s 3 := by omega
  have hbl : (bl s).length = 6 + sb s 3 := by rw [bl_len]; exact hsz
  have hbody : bl (s.extract 4 (4 + sb s 3)) = ((bl s).drop 4).take (sb s 3) := by rw [bl_extract, Nat.add_sub_cancel_left]
  have hbs : (s.extract 4 (4 + sb s 3)).size = sb s 3 := by
    rw [← bl_len, hbody, List.length_take, List.length_drop, hbl]
    omega
  refine ⟨⟨by omega, by omega⟩, by rw [hbs]; exact c3, ?_⟩
  have hhd : hdL (sb s 2 : Nat) (s.extract 4 (4 + sb s 3)) = (bl s).take (4 + sb s 3) := by
    unfold hdL
    rw [hbs, hbody, List.take_add, take4 s _ _ _ _ (byte_of s 0 183 (by omega) c0) (byte_of s 1 1 (by omega) c1) (byte_of s 2 _ (by omega) rfl) (byte_of s 3 _ (by omega) rfl)]
    rfl
  have he : s.extract 0 (6 + sb s 3) = s := by
    rw [← hsz]
    exact extract_wholeN s
  rw [he] at ho
  unfold openB at ho
  rw [if_neg (by omega)] at ho
  have hnum : numOf (bl (s.extract (s.size - 2) s.size)) = (crcN (bl (s.extract 0 (s.size - 2))) : Nat) := by
    by_cases hnum : numOf (bl (s.extract (s.size - 2) s.size)) = (crcN (bl (s.extract 0 (s.size - 2))) : Nat)
    · exact hnum
    · rw [if_neg hnum] at ho
      exact absurd ho (by decide)
  have e1 : bl (s.extract 0 (s.size - 2)) = (bl s).take (4 + sb s 3) := by
    rw [bl_extract, List.drop_zero, Nat.sub_zero, show s.size - 2 = 4 + sb s 3 by omega]
  have e2 : bl (s.extract (s.size - 2) s.size) = (bl s).drop (4 + sb s 3) := by
    rw [bl_extract, show s.size - 2 = 4 + sb s 3 by omega, List.take_of_length_le (by rw [List.length_drop, hbl]; omega)]
  rw [e1, e2] at hnum
  have e3 := beB_numOf ((bl s).drop (4 + sb s 3))
  rw [List.length_drop, hbl, show 6 + sb s 3 - (4 + sb s 3) = 2 by omega, hnum] at e3
  unfold frS sealL
  rw [hhd, e3, List.take_append_drop, ofL_bl]
theorem hpS_ok {k : Int} {b : ByteArray} (hk : 1 ≤ k ∧ k ≤ 3) (hb : b.size ≤ 200) : hpE k b = 0 ∧ hpS k b = frS k b := by
  have h : hpE k b = 0 := by unfold hpE; rw [if_neg (by simpa using hk), if_neg (by omega)]
  exact ⟨h, by unfold hpS; rw [if_pos h]⟩
/-- What was read: a kind, a body that is one, and a frame that is that body's and no more. -/
theorem rdF_back (k : Int) (b : ByteArray) (hk : 1 ≤ k ∧ k ≤ 3) (h : (rdF k b).err = 0) : kindOk (rdF k b).f = true ∧ (rdF k b).f.k = k ∧ bodyE (rdF k b).f = 0 ∧ bodyS (rdF k b).f = b ∧ fmEq (pureF (rdF k b).f) (rdF k b).f = true := by
  unfold rdF at h ⊢
  by_cases h1 : k = 1
  · subst h1
    simp only [if_true] at h ⊢
    rcases back_facts b with ⟨_, f2, f3⟩ | f
    · exact ⟨rfl, by first | trivial | rfl, f2, f3, (fmEq_iff _ _).2 rfl⟩
    · rw [h] at f; cases f
  · by_cases h2 : k = 2
    · subst h2
      simp only [if_true, if_neg (show ¬ ((2 : Int) = 1) by decide)] at h ⊢
      rcases back_factsR b with ⟨_, f2, f3⟩ | f
      · exact ⟨rfl, by first | trivial | rfl, f2, f3, (fmEq_iff _ _).2 rfl⟩
      · rw [h] at f; cases f
    · obtain rfl : k = 3 := by omega
      simp only [if_neg (show ¬ ((3 : Int) = 1) by decide), if_neg (show ¬ ((3 : Int) = 2) by decide)] at h ⊢
      rcases back_factsP b with ⟨_, f2, f3⟩ | f
      · exact ⟨rfl, by first | trivial | rfl, f2, f3, (fmEq_iff _ _).2 rfl⟩
      · rw [h] at f; cases f
/-- Bytes are those of their frame. -/
theorem enc_dec (s : ByteArray) (h : (decB s).err = 0) : encE (decB s).f = 0 ∧ encS (decB s).f = s := by
  have hd : (getH s).err = 0 ∧ (rdF (getH s).kind (getH s).body).err = 0 ∧ decB s = ⟨(rdF (getH s).kind (getH s).body).f, 0⟩ := by
    unfold decB at h ⊢
    by_cases h1 : (getH s).err = 0
    · rw [if_neg (by simpa using h1)] at h ⊢
      by_cases h2 : (rdF (getH s).kind (getH s).body).err = 0
      · rw [if_neg (by simpa using h2)]
        exact ⟨h1, h2, rfl⟩
      · rw [if_pos h2] at h
        exact absurd h (by decide)
    · rw [if_pos h1] at h
      exact absurd h h1
  obtain ⟨d1, d2, d3⟩ := hd
  obtain ⟨hk, hb, hs⟩ := put_getH s d1
  obtain ⟨k1, k2, k3, k4, k5⟩ := rdF_back _ _ hk d2
  obtain ⟨p1, p2⟩ := hpS_ok hk hb
  rw [d3]
  have hp : ¬ (bodyE (rdF (getH s).kind (getH s).body).f ≠ 0 ∨ fmEq (pureF (rdF (getH s).kind (getH s).body).f) (rdF (getH s).kind (getH s).body).f = false) := by
    rintro (e | e)
    · exact e k3
    · rw [k5] at e; cases e
  constructor
  · show encE (rdF (getH s).kind (getH s).body).f = 0
    unfold encE
    rw [if_neg (by rw [k1]; decide), if_neg hp, k2, k4, p1]
  · show encS (rdF (getH s).kind (getH s).body).f = s
    unfold encS
    rw [if_neg (by rw [k1]; decide), if_neg hp, k2, k4, p2]
    exact hs
/-- A frame comes back from its bytes. -/
theorem dec_enc (x : Fm) (h : encE x = 0) : decB (encS x) = ⟨x, 0⟩ := by
  have hk : kindOk x = true := by
    by_cases hk : kindOk x = true
    · exact hk
    · unfold encE at h
      rw [if_pos (by simpa using hk)] at h
      exact absurd h (by decide)
  have hp : ¬ (bodyE x ≠ 0 ∨ fmEq (pureF x) x = false) := by
    intro hp
    unfold encE at h
    rw [if_neg (by rw [hk]; decide), if_pos hp] at h
    exact absurd h (by decide)
  have hb : bodyE x = 0 := Classical.byContradiction fun e => hp (.inl e)
  have he : fmEq (pureF x) x = true := by
    cases e : fmEq (pureF x) x with
    | true => rfl
    | false => exact absurd (.inr e) hp
  have hx := (fmEq_iff _ _).1 he
  have hkk : 1 ≤ x.k ∧ x.k ≤ 3 := of_decide_eq_true hk
  obtain ⟨p1, p2⟩ := hpS_ok hkk (bodyS_sz x)
  have hS : encS x = frS x.k (bodyS x) := by
    unfold encS
    rw [if_neg (by rw [hk]; decide), if_neg hp, p2]
  rw [hS]
  have hg := get_back x.k (bodyS x) hkk (bodyS_sz x)
  unfold decB
  rw [hg]
  simp only
  have hr : rdF x.k (bodyS x) = ⟨x, 0⟩ := by
    clear hg hS p1 p2 hp he h hk
    obtain ⟨k, q, a, p⟩ := x
    simp only at hkk
    unfold rdF bodyS
    unfold bodyE at hb
    unfold pureF at hx
    by_cases h1 : k = 1
    · subst h1
      simp only [if_true] at hb hx ⊢
      injection hx with _ _ ea ep
      subst ea ep
      have hq : rqOk q = true := by
        cases e : rqOk q with
        | true => rfl
        | false => rw [errOf, e] at hb; exact absurd hb (by decide)
      rw [putS, if_pos hq, (get_put hq).1]
    · by_cases h2 : k = 2
      · subst h2
        simp only [if_true, if_neg (show ¬ ((2 : Int) = 1) by decide)] at hb hx ⊢
        injection hx with _ eq _ ep
        subst eq ep
        have hq : rpOk a = true := by
          cases e : rpOk a with
          | true => rfl
          | false => rw [errR, e] at hb; exact absurd hb (by decide)
        rw [putR, if_pos hq, (get_putR hq).1]
      · obtain rfl : k = 3 := by omega
        simp only [if_neg (show ¬ ((3 : Int) = 1) by decide), if_neg (show ¬ ((3 : Int) = 2) by decide)] at hb hx ⊢
        injection hx with _ eq ea _
        subst eq ea
        have hq : psOk p = true := by
          cases e : psOk p with
          | true => rfl
          | false => rw [errP, e] at hb; exact absurd hb (by decide)
        rw [putP, if_pos hq, (get_putP hq).1]
  rw [hr]
  rfl
theorem enc_none (x : Fm) (h : encE x ≠ 0) : encS x = ⟨#[]⟩ := by
  unfold encE at h
  unfold encS
  by_cases hk : kindOk x = false
  · rw [if_pos hk]
  · rw [if_neg hk] at h ⊢
    by_cases hp : bodyE x ≠ 0 ∨ fmEq (pureF x) x = false
    · rw [if_pos hp]
    · rw [if_neg hp] at h ⊢
      unfold hpS
      rw [if_neg h]
theorem encS_sz (x : Fm) : (encS x).size ≤ 1000 := by
  by_cases h : encE x = 0
  · have h1 := dec_enc x h
    unfold encS
    split
    · decide
    · split
      · decide
      · unfold hpS
        split
        · rw [frS_size]; have := bodyS_sz x; omega
        · decide
  · rw [enc_none x h]; decide
end Go.Proofs.YtobcjbpgeohbgaaGreatDoor
