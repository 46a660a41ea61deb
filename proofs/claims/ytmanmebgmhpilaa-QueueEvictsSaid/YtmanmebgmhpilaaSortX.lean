/-
  slices.symMergeCmpFunc at elements of k cells: where one side is one place long, and the rest.
-/
import Derived.Test.YtmanmebgmhpilaaSortW
namespace Go.Proofs.Ytmanmebgmhpilaa
open Go.Shelf Go.RowKit Go.Lib Go.Sort
set_option linter.unusedVariables false
variable {P : Program} {α : Type} [Inhabited α]

/-- The first place of i .. j at which p does not hold, where p holds first and then does not. -/
def bis (p : Nat → Bool) : Nat → Nat → Nat → Nat
  | 0, i, _ => i
  | f + 1, i, j => if i < j then (if p ((i + j) / 2) then bis p f ((i + j) / 2 + 1) j else bis p f i ((i + j) / 2)) else i
theorem bis_end (p : Nat → Bool) (f i j : Nat) (h : ¬ i < j) : bis p f i j = i := by
  cases f with
  | zero => rfl
  | succ f => rw [bis, if_neg h]
theorem bis_go (p : Nat → Bool) (f i j : Nat) (h : i < j) (hp : p ((i + j) / 2) = true) : bis p (f + 1) i j = bis p f ((i + j) / 2 + 1) j := by rw [bis, if_pos h, if_pos hp]
theorem bis_back (p : Nat → Bool) (f i j : Nat) (h : i < j) (hp : p ((i + j) / 2) = false) : bis p (f + 1) i j = bis p f i ((i + j) / 2) := by rw [bis, if_pos h, if_neg (by simp [hp])]
theorem bis_in (p : Nat → Bool) (f i j : Nat) (h : i ≤ j) : i ≤ bis p f i j ∧ bis p f i j ≤ j := by
  induction f generalizing i j with
  | zero => exact ⟨Nat.le_refl _, h⟩
  | succ f ih =>
    rw [bis]
    split
    · split
      · have := ih ((i + j) / 2 + 1) j (by omega); omega
      · have := ih i ((i + j) / 2) (by omega); omega
    · exact ⟨Nat.le_refl _, h⟩
/-- The place a goes up n places. -/
def mvU (d : Array α) (a : Nat) : Nat → Array α
  | 0 => d
  | n + 1 => swp (mvU d a n) (a + n) (a + n + 1)
theorem size_mvU (d : Array α) (a n : Nat) : (mvU d a n).size = d.size := by
  induction n with
  | zero => rfl
  | succ n ih => rw [mvU, size_swp, ih]
/-- The place m goes down n places. -/
def mvD (d : Array α) (m : Nat) : Nat → Array α
  | 0 => d
  | n + 1 => swp (mvD d m n) (m - n) (m - n - 1)
theorem size_mvD (d : Array α) (m n : Nat) : (mvD d m n).size = d.size := by
  induction n with
  | zero => rfl
  | succ n ih => rw [mvD, size_swp, ih]

def symI1 (lt : α → α → Bool) (d : Array α) (a m b : Nat) : Nat := bis (fun h => lt d[h]! d[a]!) (b - m) m b
def symI2 (lt : α → α → Bool) (d : Array α) (a m : Nat) : Nat := bis (fun h => !lt d[m]! d[h]!) (m - a) a m

set_option maxHeartbeats 8000000 in
set_option maxRecDepth 1000000 in
theorem sym_one (k : Nat) (L : StLays P k) (enc : α → List Value) (cf : α → α → Int) (g : Nat) (cb : Array Value) (blk off cap a m b : Nat) (d0 d : Array α) (w0 w : World)
    (eg : ∀ args w, (callFunc g args).run P w = .ok (.enter g args) w) (hcmp : CmpLays P g cb enc k cf blk off d0.size w0) (R : RowK enc k w0 blk off d0) (hs : d0.size = d.size) (S : SWK enc k w0 blk off d w)
    (ham : a < m) (hmb : m < b) (hb : b ≤ d.size) (hsz : d.size < 4611686018427387904) (h1 : m - a = 1) :
    Calls P 72 #[.slice (some ⟨blk, off, none⟩) d.size cap, .int .i64 a, .int .i64 m, .int .i64 b, .func (.func g) #[] cb] w fun e w' => e = .returned (.tuple #[]) ∧ SWK enc k w0 blk off (mvU d a (symI1 (ltOf cf) d a m b - 1 - a)) w' := by
  have mixed := L.mixed; have t0 := L.t0; have a0 := L.a0; have z0 := L.z0; have v0 := L.v0; have t3 := L.t3; have a3 := L.a3; have z3 := L.z3; have v3 := L.v3; have t4 := L.t4; have a4 := L.a4; have z4 := L.z4; have v4 := L.v4; have t22 := L.t22; have a22 := L.a22; have z22 := L.z22; have v22 := L.v22; have t25 := L.t25; have a25 := L.a25; have z25 := L.z25; have v25 := L.v25; have t26 := L.t26; have a26 := L.a26; have z26 := L.z26; have v26 := L.v26; have aE := L.aE; have zE := L.zE
  have FG := L.f72
  have S0 : Aside (SWK enc k w0 blk off d w) := S
  have HC : Aside _ := hcmp
  clear S hcmp
  have m1 : (m : Int) - (a : Int) = 1 := by omega
  go_enter FG, Try.ntmps72
  go_wp2
  go_loopg [10, 11] (b - m) (fun kx s10 s11 wr => ∃ (i j f : Nat), s10 = .int .i64 i ∧ s11 = .int .i64 j ∧ m ≤ i ∧ i ≤ j ∧ j ≤ b ∧ j - i ≤ kx ∧ j - i ≤ f ∧ Aside (SWK enc k w0 blk off d wr) ∧ Hid (bis (fun h => ltOf cf d[h]! d[a]!) f i j = symI1 (ltOf cf) d a m b))
  case atStart => exact ⟨m, b, b - m, by first | rfl | go_num | (congr 1; omega), by first | rfl | go_num | (congr 1; omega), Nat.le_refl _, by omega, Nat.le_refl _, Nat.le_refl _, Nat.le_refl _, S0, rfl⟩
  case round =>
    clear S0
    obtain ⟨i, j, f, rfl, rfl, hi0, hij, hjb, hkx, hf, S1, HB⟩ := hrel
    by_cases hlt : i < j
    · obtain ⟨f, rfl⟩ : ∃ f', f = f' + 1 := ⟨f - 1, by omega⟩
      have hltz : (i : Int) < (j : Int) := by omega
      cases hlv : ltOf cf d[(i + j) / 2]! d[a]! with
      | true =>
        have HB2 : Hid _ := HB.out.symm.trans (bis_go _ f i j hlt (by simp [hlv]))
        have ex : (((i : Int) + (j : Int)) / 2).toNat = (i + j) / 2 := by omega
        have px : (0 : Int) ≤ ((i : Int) + (j : Int)) / 2 := by omega
        have bx : ((i : Int) + (j : Int)) / 2 < (d.size : Int) := by omega
        have rx : IntKind.i64.wrap (((i : Int) + (j : Int)) / 2) = ((i : Int) + (j : Int)) / 2 := by rw [IntKind.wrap_i64]; omega
        have ey : ((a : Int)).toNat = a := by omega
        have py : (0 : Int) ≤ (a : Int) := by omega
        have by' : (a : Int) < (d.size : Int) := by omega
        have ry : IntKind.i64.wrap ((a : Int)) = (a : Int) := by rw [IntKind.wrap_i64]; omega
        obtain ⟨vx, hvx⟩ : ∃ v, v = d[(i + j) / 2]! := ⟨_, rfl⟩
        obtain ⟨vy, hvy⟩ : ∃ v, v = d[a]! := ⟨_, rfl⟩
        have l1 := S1.out.ld R (by omega) P ((i + j) / 2) (by omega)
        have l2 := S1.out.ld R (by omega) P (a) (by omega)
        rw [← hvx] at l1
        rw [← hvy] at l2
        have hc := S1.out.cmp HC.out (by omega) vx vy
        have hv : cf vx vy < 0 := by rw [hvx, hvy]; exact of_decide_eq_true hlv
        have hd : decide (cf vx vy < 0) = true := decide_eq_true hv
        clear hvx hvy
        go_wp2_with fail
        go_quiet_grown (first | (go_at_fn g; refine Calls.grown_of (hc _ _)))
        have S2 : Aside (SWK enc k w0 blk off d (grow (wr.drewN nq) osq)) := S1.out.grown nq osq
        clear l1 l2 hc S1 hv hd
        generalize grow (wr.drewN nq) osq = w2 at S2 ⊢
        clear nq osq ex px bx rx ey py by' ry
        go_wp2
        go_roundg (j - ((i + j) / 2 + 1))
        case measure => omega
        case rel => exact ⟨(i + j) / 2 + 1, j, f, by rw [show ((i : Int) + (j : Int)) / 2 + 1 = (((i + j) / 2 + 1 : Nat) : Int) by omega], rfl, by omega, by omega, by omega, Nat.le_refl _, by omega, S2, HB2.out.symm⟩
      | false =>
        have HB2 : Hid _ := HB.out.symm.trans (bis_back _ f i j hlt (by simp [hlv]))
        have ex : (((i : Int) + (j : Int)) / 2).toNat = (i + j) / 2 := by omega
        have px : (0 : Int) ≤ ((i : Int) + (j : Int)) / 2 := by omega
        have bx : ((i : Int) + (j : Int)) / 2 < (d.size : Int) := by omega
        have rx : IntKind.i64.wrap (((i : Int) + (j : Int)) / 2) = ((i : Int) + (j : Int)) / 2 := by rw [IntKind.wrap_i64]; omega
        have ey : ((a : Int)).toNat = a := by omega
        have py : (0 : Int) ≤ (a : Int) := by omega
        have by' : (a : Int) < (d.size : Int) := by omega
        have ry : IntKind.i64.wrap ((a : Int)) = (a : Int) := by rw [IntKind.wrap_i64]; omega
        obtain ⟨vx, hvx⟩ : ∃ v, v = d[(i + j) / 2]! := ⟨_, rfl⟩
        obtain ⟨vy, hvy⟩ : ∃ v, v = d[a]! := ⟨_, rfl⟩
        have l1 := S1.out.ld R (by omega) P ((i + j) / 2) (by omega)
        have l2 := S1.out.ld R (by omega) P (a) (by omega)
        rw [← hvx] at l1
        rw [← hvy] at l2
        have hc := S1.out.cmp HC.out (by omega) vx vy
        have hv : ¬ cf vx vy < 0 := by rw [hvx, hvy]; exact of_decide_eq_false hlv
        have hd : decide (cf vx vy < 0) = false := decide_eq_false hv
        clear hvx hvy
        go_wp2_with fail
        go_quiet_grown (first | (go_at_fn g; refine Calls.grown_of (hc _ _)))
        have S2 : Aside (SWK enc k w0 blk off d (grow (wr.drewN nq) osq)) := S1.out.grown nq osq
        clear l1 l2 hc S1 hv hd
        generalize grow (wr.drewN nq) osq = w2 at S2 ⊢
        clear nq osq ex px bx rx ey py by' ry
        go_wp2
        go_roundg ((i + j) / 2 - i)
        case measure => omega
        case rel => exact ⟨i, (i + j) / 2, f, rfl, by rw [show ((i : Int) + (j : Int)) / 2 = (((i + j) / 2 : Nat) : Int) by omega], by omega, by omega, by omega, Nat.le_refl _, by omega, S2, HB2.out.symm⟩
    · obtain rfl : i = j := by omega
      have HI : Hid (i = symI1 (ltOf cf) d a m b) := (bis_end _ f i i (by omega)).symm.trans HB.out
      clear HB
      go_wp2
      go_loopg [13] (i - 1 - a) (fun kx s13 wr2 => ∃ (n : Nat) (dk : Array α), s13 = .int .i64 ((a + n : Nat) : Int) ∧ a + n ≤ i - 1 ∧ i - 1 - (a + n) ≤ kx ∧ dk.size = d.size ∧ Aside (SWK enc k w0 blk off dk wr2) ∧ Hid (dk = mvU d a n))
      case atStart => exact ⟨0, d, by first | rfl | go_num | (congr 1; omega), by omega, by omega, rfl, S1, rfl⟩
      case round =>
        clear S1
        obtain ⟨n, dk, rfl, hn, hkx2, hds, S1, HD⟩ := hrel
        by_cases hlt2 : a + n < i - 1
        · have hz2 : (a : Int) + (n : Int) < (i : Int) - 1 := by omega
          have hd2 : decide ((a : Int) + (n : Int) < (i : Int) - 1) = true := decide_eq_true hz2
          have ri : IntKind.i64.wrap ((i : Int) - 1) = (i : Int) - 1 := by rw [IntKind.wrap_i64]; omega
          go_wp2_with fail
          have ex : ((a : Int) + (n : Int)).toNat = a + n := by omega
          have px : (0 : Int) ≤ (a : Int) + (n : Int) := by omega
          have bx : (a : Int) + (n : Int) < (d.size : Int) := by omega
          have rx : IntKind.i64.wrap ((a : Int) + (n : Int)) = (a : Int) + (n : Int) := by rw [IntKind.wrap_i64]; omega
          have ey : ((a : Int) + (n : Int) + 1).toNat = a + n + 1 := by omega
          have py : (0 : Int) ≤ (a : Int) + (n : Int) + 1 := by omega
          have by' : (a : Int) + (n : Int) + 1 < (d.size : Int) := by omega
          have ry : IntKind.i64.wrap ((a : Int) + (n : Int) + 1) = (a : Int) + (n : Int) + 1 := by rw [IntKind.wrap_i64]; omega
          have S2 : Aside (SWK enc k w0 blk off (swp dk (a + n) (a + n + 1)) ((wr.drew.setCells blk (off + (a + n) * k) (enc dk[a + n + 1]!)).setCells blk (off + (a + n + 1) * k) (enc dk[a + n]!))) := S1.out.swapped R (a + n) (a + n + 1) (by omega) (by omega)
          have l1 := S1.out.ld1 R (by omega) P (a + n) (by omega)
          have l2 := S1.out.ld1 R (by omega) P (a + n + 1) (by omega)
          have s1 := S1.out.st1 R (by omega) P (a + n) (by omega) dk[a + n + 1]!
          have s2 := S1.out.st2 R (by omega) P (a + n) (a + n + 1) (by omega) (by omega) dk[a + n + 1]! dk[a + n]!
          have n1 : (enc dk[a + n]!).length = k := R.hk _
          have n2 : (enc dk[a + n + 1]!).length = k := R.hk _
          generalize enc dk[a + n]! = cI at S2 l1 s2 n1
          generalize enc dk[a + n + 1]! = cJ at S2 l2 s1 s2 n2
          clear S1
          go_wp2_with fail
          go_big_region_o
          clear l1 l2 s1 s2
          generalize (wr.drew.setCells blk (off + (a + n) * k) cJ).setCells blk (off + (a + n + 1) * k) cI = w2 at S2 ⊢
          go_wp2
          go_roundg (i - 1 - (a + (n + 1)))
          case measure => omega
          case rel => exact ⟨n + 1, swp dk (a + n) (a + n + 1), by first | go_num | (congr 1; omega), by omega, Nat.le_refl _, by rw [size_swp]; exact hds, S2, by rw [HD.out]; rfl⟩
        · have hn2 : a + n = i - 1 := by omega
          have hz2 : ¬ (a : Int) + (n : Int) < (i : Int) - 1 := by omega
          have hd2 : decide ((a : Int) + (n : Int) < (i : Int) - 1) = false := decide_eq_false hz2
          have ri : IntKind.i64.wrap ((i : Int) - 1) = (i : Int) - 1 := by rw [IntKind.wrap_i64]; omega
          go_wp2
          (try simp only [Exit.inBlock, Exit.then]); refine bodyPost_ret (results_none rfl _ _ _) rfl ?_
          refine ⟨rfl, ?_⟩
          rw [← HI.out, show i - 1 - a = n by omega, ← HD.out]
          exact S1.out
set_option maxHeartbeats 8000000 in
set_option maxRecDepth 1000000 in
theorem sym_two (k : Nat) (L : StLays P k) (enc : α → List Value) (cf : α → α → Int) (g : Nat) (cb : Array Value) (blk off cap a m b : Nat) (d0 d : Array α) (w0 w : World)
    (eg : ∀ args w, (callFunc g args).run P w = .ok (.enter g args) w) (hcmp : CmpLays P g cb enc k cf blk off d0.size w0) (R : RowK enc k w0 blk off d0) (hs : d0.size = d.size) (S : SWK enc k w0 blk off d w)
    (ham : a < m) (hmb : m < b) (hb : b ≤ d.size) (hsz : d.size < 4611686018427387904) (h1 : ¬ m - a = 1) (h2 : b - m = 1) :
    Calls P 72 #[.slice (some ⟨blk, off, none⟩) d.size cap, .int .i64 a, .int .i64 m, .int .i64 b, .func (.func g) #[] cb] w fun e w' => e = .returned (.tuple #[]) ∧ SWK enc k w0 blk off (mvD d m (m - symI2 (ltOf cf) d a m)) w' := by
  have mixed := L.mixed; have t0 := L.t0; have a0 := L.a0; have z0 := L.z0; have v0 := L.v0; have t3 := L.t3; have a3 := L.a3; have z3 := L.z3; have v3 := L.v3; have t4 := L.t4; have a4 := L.a4; have z4 := L.z4; have v4 := L.v4; have t22 := L.t22; have a22 := L.a22; have z22 := L.z22; have v22 := L.v22; have t25 := L.t25; have a25 := L.a25; have z25 := L.z25; have v25 := L.v25; have t26 := L.t26; have a26 := L.a26; have z26 := L.z26; have v26 := L.v26; have aE := L.aE; have zE := L.zE
  have FG := L.f72
  have S0 : Aside (SWK enc k w0 blk off d w) := S
  have HC : Aside _ := hcmp
  clear S hcmp
  have m1 : ¬ ((m : Int) - (a : Int) = 1) := by omega
  have m1b : ((m : Int) - (a : Int) == 1) = false := by simpa using m1
  have m2 : (b : Int) - (m : Int) = 1 := by omega
  have m1' : IntKind.i64.wrap ((m : Int) - (a : Int)) = (m : Int) - (a : Int) := by rw [IntKind.wrap_i64]; omega
  go_enter FG, Try.ntmps72
  go_wp2
  go_loopg [14, 15] (m - a) (fun kx s10 s11 wr => ∃ (i j f : Nat), s10 = .int .i64 i ∧ s11 = .int .i64 j ∧ a ≤ i ∧ i ≤ j ∧ j ≤ m ∧ j - i ≤ kx ∧ j - i ≤ f ∧ Aside (SWK enc k w0 blk off d wr) ∧ Hid (bis (fun h => !ltOf cf d[m]! d[h]!) f i j = symI2 (ltOf cf) d a m))
  case atStart => exact ⟨a, m, m - a, by first | rfl | go_num | (congr 1; omega), by first | rfl | go_num | (congr 1; omega), Nat.le_refl _, by omega, Nat.le_refl _, Nat.le_refl _, Nat.le_refl _, S0, rfl⟩
  case round =>
    clear S0
    obtain ⟨i, j, f, rfl, rfl, hi0, hij, hjb, hkx, hf, S1, HB⟩ := hrel
    by_cases hlt : i < j
    · obtain ⟨f, rfl⟩ : ∃ f', f = f' + 1 := ⟨f - 1, by omega⟩
      have hltz : (i : Int) < (j : Int) := by omega
      cases hlv : ltOf cf d[m]! d[(i + j) / 2]! with
      | true =>
        have HB2 : Hid _ := HB.out.symm.trans (bis_back _ f i j hlt (by simp [hlv]))
        have ex : ((m : Int)).toNat = m := by omega
        have px : (0 : Int) ≤ (m : Int) := by omega
        have bx : (m : Int) < (d.size : Int) := by omega
        have rx : IntKind.i64.wrap ((m : Int)) = (m : Int) := by rw [IntKind.wrap_i64]; omega
        have ey : (((i : Int) + (j : Int)) / 2).toNat = (i + j) / 2 := by omega
        have py : (0 : Int) ≤ ((i : Int) + (j : Int)) / 2 := by omega
        have by' : ((i : Int) + (j : Int)) / 2 < (d.size : Int) := by omega
        have ry : IntKind.i64.wrap (((i : Int) + (j : Int)) / 2) = ((i : Int) + (j : Int)) / 2 := by rw [IntKind.wrap_i64]; omega
        obtain ⟨vx, hvx⟩ : ∃ v, v = d[m]! := ⟨_, rfl⟩
        obtain ⟨vy, hvy⟩ : ∃ v, v = d[(i + j) / 2]! := ⟨_, rfl⟩
        have l1 := S1.out.ld R (by omega) P (m) (by omega)
        have l2 := S1.out.ld R (by omega) P ((i + j) / 2) (by omega)
        rw [← hvx] at l1
        rw [← hvy] at l2
        have hc := S1.out.cmp HC.out (by omega) vx vy
        have hv : cf vx vy < 0 := by rw [hvx, hvy]; exact of_decide_eq_true hlv
        have hd : decide (cf vx vy < 0) = true := decide_eq_true hv
        clear hvx hvy
        go_wp2_with fail
        go_quiet_grown (first | (go_at_fn g; refine Calls.grown_of (hc _ _)))
        have S2 : Aside (SWK enc k w0 blk off d (grow (wr.drewN nq) osq)) := S1.out.grown nq osq
        clear l1 l2 hc S1 hv hd
        generalize grow (wr.drewN nq) osq = w2 at S2 ⊢
        clear nq osq ex px bx rx ey py by' ry
        go_wp2
        go_roundg ((i + j) / 2 - i)
        case measure => omega
        case rel => exact ⟨i, (i + j) / 2, f, rfl, by rw [show ((i : Int) + (j : Int)) / 2 = (((i + j) / 2 : Nat) : Int) by omega], by omega, by omega, by omega, Nat.le_refl _, by omega, S2, HB2.out.symm⟩
      | false =>
        have HB2 : Hid _ := HB.out.symm.trans (bis_go _ f i j hlt (by simp [hlv]))
        have ex : ((m : Int)).toNat = m := by omega
        have px : (0 : Int) ≤ (m : Int) := by omega
        have bx : (m : Int) < (d.size : Int) := by omega
        have rx : IntKind.i64.wrap ((m : Int)) = (m : Int) := by rw [IntKind.wrap_i64]; omega
        have ey : (((i : Int) + (j : Int)) / 2).toNat = (i + j) / 2 := by omega
        have py : (0 : Int) ≤ ((i : Int) + (j : Int)) / 2 := by omega
        have by' : ((i : Int) + (j : Int)) / 2 < (d.size : Int) := by omega
        have ry : IntKind.i64.wrap (((i : Int) + (j : Int)) / 2) = ((i : Int) + (j : Int)) / 2 := by rw [IntKind.wrap_i64]; omega
        obtain ⟨vx, hvx⟩ : ∃ v, v = d[m]! := ⟨_, rfl⟩
        obtain ⟨vy, hvy⟩ : ∃ v, v = d[(i + j) / 2]! := ⟨_, rfl⟩
        have l1 := S1.out.ld R (by omega) P (m) (by omega)
        have l2 := S1.out.ld R (by omega) P ((i + j) / 2) (by omega)
        rw [← hvx] at l1
        rw [← hvy] at l2
        have hc := S1.out.cmp HC.out (by omega) vx vy
        have hv : ¬ cf vx vy < 0 := by rw [hvx, hvy]; exact of_decide_eq_false hlv
        have hd : decide (cf vx vy < 0) = false := decide_eq_false hv
        clear hvx hvy
        go_wp2_with fail
        go_quiet_grown (first | (go_at_fn g; refine Calls.grown_of (hc _ _)))
        have S2 : Aside (SWK enc k w0 blk off d (grow (wr.drewN nq) osq)) := S1.out.grown nq osq
        clear l1 l2 hc S1 hv hd
        generalize grow (wr.drewN nq) osq = w2 at S2 ⊢
        clear nq osq ex px bx rx ey py by' ry
        go_wp2
        go_roundg (j - ((i + j) / 2 + 1))
        case measure => omega
        case rel => exact ⟨(i + j) / 2 + 1, j, f, by rw [show ((i : Int) + (j : Int)) / 2 + 1 = (((i + j) / 2 + 1 : Nat) : Int) by omega], rfl, by omega, by omega, by omega, Nat.le_refl _, by omega, S2, HB2.out.symm⟩
    · obtain rfl : i = j := by omega
      have HI : Hid (i = symI2 (ltOf cf) d a m) := (bis_end _ f i i (by omega)).symm.trans HB.out
      clear HB
      go_wp2
      go_loopg [17] (m - i) (fun kx s17 wr2 => ∃ (n c : Nat) (dk : Array α), s17 = .int .i64 (c : Int) ∧ c + n = m ∧ i ≤ c ∧ c - i ≤ kx ∧ dk.size = d.size ∧ Aside (SWK enc k w0 blk off dk wr2) ∧ Hid (dk = mvD d m n))
      case atStart => exact ⟨0, m, d, rfl, by omega, by omega, by omega, rfl, S1, rfl⟩
      case round =>
        clear S1
        obtain ⟨n, c, dk, rfl, hn, hn3, hkx2, hds, S1, HD⟩ := hrel
        by_cases hlt2 : i < c
        · obtain ⟨c, rfl⟩ : ∃ c', c = c' + 1 := ⟨c - 1, by omega⟩
          have hz2 : (i : Int) < (c : Int) + 1 := by omega
          go_wp2_with fail
          have ex : ((c : Int) + 1).toNat = c + 1 := by omega
          have px : (0 : Int) ≤ (c : Int) + 1 := by omega
          have bx : (c : Int) + 1 < (d.size : Int) := by omega
          have rx : IntKind.i64.wrap ((c : Int) + 1) = (c : Int) + 1 := by rw [IntKind.wrap_i64]; omega
          have ey : ((c : Int)).toNat = c := by omega
          have py : (0 : Int) ≤ (c : Int) := by omega
          have by' : (c : Int) < (d.size : Int) := by omega
          have ry : IntKind.i64.wrap ((c : Int)) = (c : Int) := by rw [IntKind.wrap_i64]; omega
          have S2 : Aside (SWK enc k w0 blk off (swp dk (c + 1) (c)) ((wr.drew.setCells blk (off + (c + 1) * k) (enc dk[c]!)).setCells blk (off + (c) * k) (enc dk[c + 1]!))) := S1.out.swapped R (c + 1) (c) (by omega) (by omega)
          have l1 := S1.out.ld1 R (by omega) P (c + 1) (by omega)
          have l2 := S1.out.ld1 R (by omega) P (c) (by omega)
          have s1 := S1.out.st1 R (by omega) P (c + 1) (by omega) dk[c]!
          have s2 := S1.out.st2 R (by omega) P (c + 1) (c) (by omega) (by omega) dk[c]! dk[c + 1]!
          have n1 : (enc dk[c + 1]!).length = k := R.hk _
          have n2 : (enc dk[c]!).length = k := R.hk _
          generalize enc dk[c + 1]! = cI at S2 l1 s2 n1
          generalize enc dk[c]! = cJ at S2 l2 s1 s2 n2
          clear S1
          go_wp2_with fail
          go_big_region_o
          clear l1 l2 s1 s2
          generalize (wr.drew.setCells blk (off + (c + 1) * k) cJ).setCells blk (off + (c) * k) cI = w2 at S2 ⊢
          go_wp2
          go_roundg (c - i)
          case measure => omega
          case rel => exact ⟨n + 1, c, swp dk (c + 1) c, by first | rfl | go_num | (congr 1; omega), by omega, by omega, Nat.le_refl _, by rw [size_swp]; exact hds, S2, by rw [HD.out, mvD, show m - n = c + 1 by omega, show c + 1 - 1 = c by omega]; rfl⟩
        · have hn2 : c = i := by omega
          subst hn2
          go_wp2
          (try simp only [Exit.inBlock, Exit.then]); refine bodyPost_ret (results_none rfl _ _ _) rfl ?_
          refine ⟨rfl, ?_⟩
          rw [← HI.out, show m - c = n by omega, ← HD.out]
          exact S1.out
end Go.Proofs.Ytmanmebgmhpilaa
