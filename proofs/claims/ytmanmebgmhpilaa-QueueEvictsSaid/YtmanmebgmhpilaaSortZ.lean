/-
  slices.symMergeCmpFunc whole, slices.stableCmpFunc: over any program that bears these bodies.
-/
import Derived.Test.YtmanmebgmhpilaaSortY
namespace Go.Proofs.Ytmanmebgmhpilaa
open Go.Shelf Go.RowKit Go.Lib Go.Sort
set_option linter.unusedVariables false
variable {P : Program} {α : Type} [Inhabited α]

/-- What symMerge makes of the places a .. m and m .. b. -/
def symM (lt : α → α → Bool) : Nat → Array α → Nat → Nat → Nat → Array α
  | 0, d, _, _, _ => d
  | f + 1, d, a, m, b => if m - a = 1 then mvU d a (symI1 lt d a m b - 1 - a) else if b - m = 1 then mvD d m (m - symI2 lt d a m) else symD3 (symM lt f) lt d a m b
theorem size_symM (lt : α → α → Bool) (f : Nat) : ∀ (d : Array α) (a m b : Nat), (symM lt f d a m b).size = d.size := by
  induction f with
  | zero => intro d a m b; rfl
  | succ f ih =>
    intro d a m b
    rw [symM]
    split
    · rw [size_mvU]
    · split
      · rw [size_mvD]
      · rw [size_symD3 _ ih]

theorem sym_any (k : Nat) (L : StLays P k) (enc : α → List Value) (cf : α → α → Int) (g : Nat) (cb : Array Value) (blk off cap : Nat) (d0 : Array α) (w0 : World)
    (eg : ∀ args w, (callFunc g args).run P w = .ok (.enter g args) w) (hcmp : CmpLays P g cb enc k cf blk off d0.size w0) (R : RowK enc k w0 blk off d0) (hsz : d0.size < 4611686018427387904) :
    ∀ (f a m b : Nat) (d : Array α) (w : World), d0.size = d.size → SWK enc k w0 blk off d w → a < m → m < b → b ≤ d.size → b - a ≤ f →
      Calls P 72 #[.slice (some ⟨blk, off, none⟩) d.size cap, .int .i64 a, .int .i64 m, .int .i64 b, .func (.func g) #[] cb] w fun e w' => e = .returned (.tuple #[]) ∧ SWK enc k w0 blk off (symM (ltOf cf) f d a m b) w' := by
  intro f
  induction f with
  | zero => intro a m b d w hs S ham hmb hb hf; omega
  | succ f ih =>
    intro a m b d w hs S ham hmb hb hf
    by_cases h1 : m - a = 1
    · rw [symM, if_pos h1]
      exact sym_one k L enc cf g cb blk off cap a m b d0 d w0 w eg hcmp R hs S ham hmb hb (by omega) h1
    · by_cases h2 : b - m = 1
      · rw [symM, if_neg h1, if_pos h2]
        exact sym_two k L enc cf g cb blk off cap a m b d0 d w0 w eg hcmp R hs S ham hmb hb (by omega) h1 h2
      · rw [symM, if_neg h1, if_neg h2]
        refine sym_rest k L enc cf g cb blk off cap a m b d0 d w0 w eg hcmp R hs S ham hmb hb (by omega) h1 h2 (symM (ltOf cf) f) (size_symM _ _) ?_
        intro a' m' b' d' W h3 h4 h5 h6 h7 S'
        rw [← h7]
        exact ih a' m' b' d' W (by omega) S' h3 h4 (by omega) (by omega)

/-- Block by block of 20, each sorted by itself. -/
def insB (lt : α → α → Bool) (n : Nat) : Nat → Nat → Array α → Array α
  | 0, _, d => d
  | f + 1, a, d => if a + 20 ≤ n then insB lt n f (a + 20) (Sort.insertionSort lt d a (a + 20)) else Sort.insertionSort lt d a n
theorem insB_go (lt : α → α → Bool) (n f a : Nat) (d : Array α) (h : a + 20 ≤ n) : insB lt n (f + 1) a d = insB lt n f (a + 20) (Sort.insertionSort lt d a (a + 20)) := by rw [insB, if_pos h]
theorem insB_end (lt : α → α → Bool) (n f a : Nat) (d : Array α) (h : ¬ a + 20 ≤ n) : insB lt n (f + 1) a d = Sort.insertionSort lt d a n := by rw [insB, if_neg h]
/-- Two blocks of s by two, each pair merged. -/
def rowM (lt : α → α → Bool) (n s : Nat) : Nat → Nat → Array α → Array α
  | 0, _, d => d
  | f + 1, a, d => if a + 2 * s ≤ n then rowM lt n s f (a + 2 * s) (symM lt (2 * s) d a (a + s) (a + 2 * s)) else if a + s < n then symM lt (n - a) d a (a + s) n else d
theorem rowM_go (lt : α → α → Bool) (n s f a : Nat) (d : Array α) (h : a + 2 * s ≤ n) : rowM lt n s (f + 1) a d = rowM lt n s f (a + 2 * s) (symM lt (2 * s) d a (a + s) (a + 2 * s)) := by rw [rowM, if_pos h]
theorem rowM_last (lt : α → α → Bool) (n s f a : Nat) (d : Array α) (h : ¬ a + 2 * s ≤ n) (h2 : a + s < n) : rowM lt n s (f + 1) a d = symM lt (n - a) d a (a + s) n := by rw [rowM, if_neg h, if_pos h2]
theorem rowM_end (lt : α → α → Bool) (n s f a : Nat) (d : Array α) (h : ¬ a + 2 * s ≤ n) (h2 : ¬ a + s < n) : rowM lt n s (f + 1) a d = d := by rw [rowM, if_neg h, if_neg h2]
theorem size_rowM (lt : α → α → Bool) (n s f : Nat) : ∀ (a : Nat) (d : Array α), (rowM lt n s f a d).size = d.size := by
  induction f with
  | zero => intro a d; rfl
  | succ f ih =>
    intro a d
    rw [rowM]
    split
    · rw [ih, size_symM]
    · split
      · rw [size_symM]
      · rfl
def allM (lt : α → α → Bool) (n : Nat) : Nat → Nat → Array α → Array α
  | 0, _, d => d
  | f + 1, s, d => if s < n then allM lt n f (2 * s) (rowM lt n s n 0 d) else d
theorem allM_go (lt : α → α → Bool) (n f s : Nat) (d : Array α) (h : s < n) : allM lt n (f + 1) s d = allM lt n f (2 * s) (rowM lt n s n 0 d) := by rw [allM, if_pos h]
theorem allM_end (lt : α → α → Bool) (n f s : Nat) (d : Array α) (h : ¬ s < n) : allM lt n f s d = d := by
  cases f with
  | zero => rfl
  | succ f => rw [allM, if_neg h]

set_option maxHeartbeats 8000000 in
set_option maxRecDepth 1000000 in
theorem stable_any (k : Nat) (L : StLays P k) (enc : α → List Value) (cf : α → α → Int) (g : Nat) (cb : Array Value) (blk off cap : Nat) (d0 d : Array α) (w0 w : World)
    (eg : ∀ args w, (callFunc g args).run P w = .ok (.enter g args) w) (hcmp : CmpLays P g cb enc k cf blk off d0.size w0) (R : RowK enc k w0 blk off d0) (hs : d0.size = d.size) (S : SWK enc k w0 blk off d w)
    (hsz : d.size < 1152921504606846976)
    (e71 : ∀ args w, (callFunc 71 args).run P w = .ok (.enter 71 args) w)
    (hins : ∀ (a b : Nat) (d' : Array α) (W : World), d'.size = d.size → SWK enc k w0 blk off d' W → a ≤ b → b ≤ d.size →
      Calls P 71 #[.slice (some ⟨blk, off, none⟩) d.size cap, .int .i64 a, .int .i64 b, .func (.func g) #[] cb] W fun e w' => e = .returned (.tuple #[]) ∧ SWK enc k w0 blk off (Sort.insertionSort (ltOf cf) d' a b) w')
    (hisz : ∀ (a b : Nat) (d' : Array α), d'.size = d.size → a ≤ b → b ≤ d.size → (Sort.insertionSort (ltOf cf) d' a b).size = d.size) :
    Calls P 66 #[.slice (some ⟨blk, off, none⟩) d.size cap, .int .i64 (d.size : Nat), .func (.func g) #[] cb] w fun e w' => e = .returned (.tuple #[]) ∧ SWK enc k w0 blk off (allM (ltOf cf) d.size d.size 20 (insB (ltOf cf) d.size (d.size + 1) 0 d)) w' := by
  have mixed := L.mixed; have t0 := L.t0; have a0 := L.a0; have z0 := L.z0; have v0 := L.v0; have t3 := L.t3; have a3 := L.a3; have z3 := L.z3; have v3 := L.v3; have t4 := L.t4; have a4 := L.a4; have z4 := L.z4; have v4 := L.v4; have t22 := L.t22; have a22 := L.a22; have z22 := L.z22; have v22 := L.v22; have t25 := L.t25; have a25 := L.a25; have z25 := L.z25; have v25 := L.v25
  have e72 : ∀ args w, (callFunc 72 args).run P w = .ok (.enter 72 args) w := enters_of L.f72 (by kernel_rfl) rfl
  have FG := L.f66
  have S0 : Aside (SWK enc k w0 blk off d w) := S
  have HS : Aside (∀ (a m b f : Nat) (d' : Array α) (W : World), d'.size = d.size → SWK enc k w0 blk off d' W → a < m → m < b → b ≤ d.size → b - a ≤ f →
      Calls P 72 #[.slice (some ⟨blk, off, none⟩) d.size cap, .int .i64 a, .int .i64 m, .int .i64 b, .func (.func g) #[] cb] W fun e w' => e = .returned (.tuple #[]) ∧ SWK enc k w0 blk off (symM (ltOf cf) f d' a m b) w') := fun a m b f d' W h1 h2 h3 h4 h5 h6 => by
    have := sym_any k L enc cf g cb blk off cap d0 w0 eg hcmp R (by omega) f a m b d' W (by omega) h2 h3 h4 (by omega) h6
    rw [h1] at this
    exact this
  have HI : Aside _ := hins
  have HZ : Aside _ := hisz
  clear S hcmp hins hisz
  generalize hd1 : insB (ltOf cf) d.size (d.size + 1) 0 d = D1
  generalize hd2 : allM (ltOf cf) d.size d.size 20 D1 = D2
  have HD1 := Lib.hid hd1
  have HD2 := Lib.hid hd2
  clear hd1 hd2
  generalize hn : d.size = n at *
  have HN := Lib.hid hn
  clear hn
  go_enter FG, Try.ntmps66
  go_wp2
  go_loopg [7, 8] n (fun kx s7 s8 wr => ∃ (a f : Nat) (dk : Array α), s7 = .int .i64 (a : Int) ∧ s8 = .int .i64 ((a + 20 : Nat) : Int) ∧ a ≤ n ∧ n - a ≤ kx ∧ n - a + 1 ≤ f ∧ dk.size = n ∧ Aside (SWK enc k w0 blk off dk wr) ∧ Hid (insB (ltOf cf) n f a dk = D1))
  case atStart => exact ⟨0, n + 1, d, rfl, rfl, Nat.zero_le _, by omega, by omega, HN.out, S0, HD1.out⟩
  case round =>
    clear S0 HD1
    obtain ⟨a, f, dk, rfl, rfl, han, hkx, hf, hds, S1, HB⟩ := hrel
    obtain ⟨f, rfl⟩ : ∃ f', f = f' + 1 := ⟨f - 1, by omega⟩
    have rw20 : IntKind.i64.wrap ((a : Int) + 20 + 20) = (a : Int) + 20 + 20 := by rw [IntKind.wrap_i64]; omega
    by_cases hlt : a + 20 ≤ n
    · have hltz : (a : Int) + 20 ≤ (n : Int) := by omega
      have hltd : decide ((a : Int) + 20 ≤ (n : Int)) = true := decide_eq_true hltz
      have hcon := HI.out a (a + 20) dk wr hds S1.out (by omega) (by omega)
      have zz := HZ.out a (a + 20) dk hds (by omega) (by omega)
      rw [show ((a + 20 : Nat) : Int) = (a : Int) + 20 by omega] at hcon
      have HB2 : Hid _ := (insB_go (ltOf cf) n f a dk hlt).symm.trans HB.out
      generalize Sort.insertionSort (ltOf cf) dk a (a + 20) = dn at hcon zz HB2
      clear HB S1
      go_wp2_with (go_at_fn 71; refine hcon.mono ?_; rintro e' w' ⟨rfl, S2⟩)
      go_roundg (n - (a + 20))
      case measure => omega
      case rel => exact ⟨a + 20, f, dn, by first | rfl | go_num | (congr 1; omega), by first | rfl | go_num | (congr 1; omega), by omega, Nat.le_refl _, by omega, zz, S2, HB2.out⟩
    · have hltz : ¬ (a : Int) + 20 ≤ (n : Int) := by omega
      have hltd : decide ((a : Int) + 20 ≤ (n : Int)) = false := decide_eq_false hltz
      have hcon := HI.out a n dk wr hds S1.out (by omega) (by omega)
      have zz := HZ.out a n dk hds (by omega) (by omega)
      have hB := (insB_end (ltOf cf) n f a dk hlt).symm.trans HB.out
      rw [hB] at hcon zz
      clear HB S1 hB
      go_wp2_with (go_at_fn 71; refine hcon.mono ?_; rintro e' w' ⟨rfl, S2⟩)
      have S3 : Aside (SWK enc k w0 blk off D1 w') := S2
      clear S2 hcon
      go_loopg [6] n (fun kx s6 wr => ∃ (s f : Nat) (dk : Array α), s6 = .int .i64 (s : Int) ∧ 20 ≤ s ∧ (n - s) ≤ kx ∧ s ≤ 2 * n + 20 ∧ n - s ≤ f ∧ dk.size = n ∧ Aside (SWK enc k w0 blk off dk wr) ∧ Hid (allM (ltOf cf) n f s dk = D2))
      case atStart => exact ⟨20, n, D1, rfl, Nat.le_refl _, by omega, by omega, by omega, zz, S3, HD2.out⟩
      case round =>
        clear S3 HD2 zz
        obtain ⟨s, f, dk, rfl, hs20, hkx, hsn, hf, hds, S1, HB⟩ := hrel
        by_cases hlt : s < n
        · obtain ⟨f, rfl⟩ : ∃ f', f = f' + 1 := ⟨f - 1, by omega⟩
          have hltz : (s : Int) < (n : Int) := by omega
          have HB2 : Hid _ := (allM_go (ltOf cf) n f s dk hlt).symm.trans HB.out
          have zr : (rowM (ltOf cf) n s n 0 dk).size = n := by rw [size_rowM]; exact hds
          generalize hDR : rowM (ltOf cf) n s n 0 dk = DR at HB2 zr
          have HDR : Hid _ := hDR
          clear HB hDR
          have ws : IntKind.i64.wrap (2 * (s : Int)) = 2 * (s : Int) := by rw [IntKind.wrap_i64]; omega
          have ws2 : IntKind.i64.wrap ((s : Int) * 2) = (s : Int) * 2 := by rw [IntKind.wrap_i64]; omega
          go_wp2
          go_loopg [7, 8] n (fun kx s7 s8 wr => ∃ (a f : Nat) (dk : Array α), s7 = .int .i64 (a : Int) ∧ s8 = .int .i64 ((a : Int) + 2 * (s : Int)) ∧ a ≤ n ∧ n - a ≤ kx ∧ n - a ≤ f ∧ 0 < f ∧ dk.size = n ∧ Aside (SWK enc k w0 blk off dk wr) ∧ Hid (rowM (ltOf cf) n s f a dk = DR))
          case atStart => exact ⟨0, n, dk, rfl, by first | rfl | go_num | (congr 1; omega), by omega, by omega, by omega, by omega, hds, S1, HDR.out⟩
          case round =>
            clear S1 HDR hds
            obtain ⟨a, f2, dk, rfl, rfl, han, hkx2, hf2, hf0, hds, S1, HB⟩ := hrel
            obtain ⟨f2, rfl⟩ : ∃ f', f2 = f' + 1 := ⟨f2 - 1, by omega⟩
            have w1 : IntKind.i64.wrap ((a : Int) + (s : Int)) = (a : Int) + (s : Int) := by rw [IntKind.wrap_i64]; omega
            have w2 : IntKind.i64.wrap ((a : Int) + 2 * (s : Int) + 2 * (s : Int)) = (a : Int) + 2 * (s : Int) + 2 * (s : Int) := by rw [IntKind.wrap_i64]; omega
            by_cases hlt2 : a + 2 * s ≤ n
            · have hz2 : (a : Int) + 2 * (s : Int) ≤ (n : Int) := by omega
              have hd2 : decide ((a : Int) + 2 * (s : Int) ≤ (n : Int)) = true := decide_eq_true hz2
              have hcon := HS.out a (a + s) (a + 2 * s) (2 * s) dk wr hds S1.out (by omega) (by omega) hlt2 (by omega)
              rw [show ((a + s : Nat) : Int) = (a : Int) + (s : Int) by omega, show ((a + 2 * s : Nat) : Int) = (a : Int) + 2 * (s : Int) by omega] at hcon
              have zz : (symM (ltOf cf) (2 * s) dk a (a + s) (a + 2 * s)).size = n := by rw [size_symM]; exact hds
              have HB2' : Hid _ := (rowM_go (ltOf cf) n s f2 a dk hlt2).symm.trans HB.out
              generalize symM (ltOf cf) (2 * s) dk a (a + s) (a + 2 * s) = dn at hcon zz HB2'
              clear HB S1
              go_wp2_with (go_at_fn 72; refine hcon.mono ?_; rintro e' w' ⟨rfl, S2⟩)
              go_roundg (n - (a + 2 * s))
              case measure => omega
              case rel => exact ⟨a + 2 * s, f2, dn, by first | rfl | go_num | (congr 1; omega), by first | rfl | go_num | (congr 1; omega), by omega, Nat.le_refl _, by omega, by omega, zz, S2, HB2'.out⟩
            · have hz2 : ¬ (a : Int) + 2 * (s : Int) ≤ (n : Int) := by omega
              have hd2 : decide ((a : Int) + 2 * (s : Int) ≤ (n : Int)) = false := decide_eq_false hz2
              by_cases hlt3 : a + s < n
              · have hz3 : (a : Int) + (s : Int) < (n : Int) := by omega
                have hd3 : decide ((a : Int) + (s : Int) < (n : Int)) = true := decide_eq_true hz3
                have hcon := HS.out a (a + s) n (n - a) dk wr hds S1.out (by omega) (by omega) (Nat.le_refl _) (by omega)
                rw [show ((a + s : Nat) : Int) = (a : Int) + (s : Int) by omega] at hcon
                have hB := (rowM_last (ltOf cf) n s f2 a dk hlt2 hlt3).symm.trans HB.out
                rw [hB] at hcon
                clear HB S1 hB
                go_wp2_with (go_at_fn 72; refine hcon.mono ?_; rintro e' w' ⟨rfl, S2⟩)
                go_roundg (n - 2 * s)
                case measure => omega
                case rel => exact ⟨2 * s, f, DR, by first | rfl | go_num | (congr 1; omega), by omega, Nat.le_refl _, by omega, by omega, zr, S2, HB2.out⟩
              · have hz3 : ¬ (a : Int) + (s : Int) < (n : Int) := by omega
                have hd3 : decide ((a : Int) + (s : Int) < (n : Int)) = false := decide_eq_false hz3
                have hB := (rowM_end (ltOf cf) n s f2 a dk hlt2 hlt3).symm.trans HB.out
                subst hB
                clear HB
                go_wp2
                go_roundg (n - 2 * s)
                case measure => omega
                case rel => exact ⟨2 * s, f, dk, by first | rfl | go_num | (congr 1; omega), by omega, Nat.le_refl _, by omega, by omega, zr, S1, HB2.out⟩
        · have hltz : ¬ (s : Int) < (n : Int) := by omega
          have hB := (allM_end (ltOf cf) n f s dk hlt).symm.trans HB.out
          subst hB
          clear HB
          go_wp2
          go_end0
          exact ⟨rfl, S1.out⟩
end Go.Proofs.Ytmanmebgmhpilaa
