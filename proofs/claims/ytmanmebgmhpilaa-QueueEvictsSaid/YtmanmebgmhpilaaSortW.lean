/-
  slices.SortStableFunc at elements of k cells: swapRange, rotate, over any program that bears these bodies. (The worlds, the row: the library's kit for slices.SortFunc at structs.)
-/
import Derived.Test.YtmanmebgmhpilaaFrame
import Derived.Lib.Hide
import Derived.Shelf.SlSortCmp.KitK
import Derived.Sort.WalkB2
import Derived.Sort.WalkB12
import Derived.Deep.LoopGhost
namespace Go.Proofs.Ytmanmebgmhpilaa
open Go.Shelf Go.RowKit Go.Lib Go.Sort
set_option linter.unusedVariables false

/-- What the stable sort wants of a program. -/
structure StLays (P : Program) (k : Nat) : Prop where
  mixed : P.follows .mixedOrders = true
  f76 : P.funcs[(76 : Nat)]? = some Try.f76
  f75 : P.funcs[(75 : Nat)]? = some Try.f75
  f72 : P.funcs[(72 : Nat)]? = some Try.f72
  f66 : P.funcs[(66 : Nat)]? = some Try.f66
  t0 : P.underlying 0 = some (TypeDesc.tuple #[])
  a0 : ∀ w, (isAgg 0).run P w = .ok false w
  z0 : ∀ w, (Go.sizeOf 0).run P w = .ok 1 w
  v0 : ∀ w, (zeroValue 0).run P w = .ok (Value.tuple #[]) w
  t3 : P.underlying 3 = some (TypeDesc.int IntKind.i64)
  a3 : ∀ w, (isAgg 3).run P w = .ok false w
  z3 : ∀ w, (Go.sizeOf 3).run P w = .ok 1 w
  v3 : ∀ w, (zeroValue 3).run P w = .ok (Value.int IntKind.i64 0) w
  t4 : P.underlying 4 = some (TypeDesc.bool)
  a4 : ∀ w, (isAgg 4).run P w = .ok false w
  z4 : ∀ w, (Go.sizeOf 4).run P w = .ok 1 w
  v4 : ∀ w, (zeroValue 4).run P w = .ok (Value.bool false) w
  t22 : P.underlying 22 = some (TypeDesc.slice 31)
  a22 : ∀ w, (isAgg 22).run P w = .ok false w
  z22 : ∀ w, (Go.sizeOf 22).run P w = .ok 1 w
  v22 : ∀ w, (zeroValue 22).run P w = .ok (Value.slice none 0 0) w
  t25 : P.underlying 87 = some (TypeDesc.func #[31, 31] #[3] false)
  a25 : ∀ w, (isAgg 87).run P w = .ok false w
  z25 : ∀ w, (Go.sizeOf 87).run P w = .ok 1 w
  v25 : ∀ w, (zeroValue 87).run P w = .ok (Value.nilFunc) w
  t26 : P.underlying 101 = some (TypeDesc.int IntKind.u64)
  a26 : ∀ w, (isAgg 101).run P w = .ok false w
  z26 : ∀ w, (Go.sizeOf 101).run P w = .ok 1 w
  v26 : ∀ w, (zeroValue 101).run P w = .ok (Value.int IntKind.u64 0) w
  aE : ∀ w, (isAgg 31).run P w = .ok true w
  zE : ∀ w, (Go.sizeOf 31).run P w = .ok k w

variable {P : Program} {α : Type} [Inhabited α]

/-- n places from a on change with n places from b on. -/
def swpR (d : Array α) (a b : Nat) : Nat → Array α
  | 0 => d
  | n + 1 => swp (swpR d a b n) (a + n) (b + n)
theorem size_swpR (d : Array α) (a b n : Nat) : (swpR d a b n).size = d.size := by
  induction n with
  | zero => rfl
  | succ n ih => rw [swpR, size_swp, ih]

set_option maxHeartbeats 4000000 in
set_option maxRecDepth 1000000 in
theorem swr_any (k : Nat) (L : StLays P k) (enc : α → List Value) (g : Nat) (cb : Array Value) (blk off cap a b n : Nat) (d0 d : Array α) (w0 w : World)
    (R : RowK enc k w0 blk off d0) (hs : d0.size = d.size) (S : SWK enc k w0 blk off d w) (ha : a + n ≤ d.size) (hb : b + n ≤ d.size) (hsz : d.size < 4611686018427387904) :
    Calls P 76 #[.slice (some ⟨blk, off, none⟩) d.size cap, .int .i64 a, .int .i64 b, .int .i64 n, .func (.func g) #[] cb] w fun e w' => e = .returned (.tuple #[]) ∧ SWK enc k w0 blk off (swpR d a b n) w' := by
  have mixed := L.mixed; have t0 := L.t0; have a0 := L.a0; have z0 := L.z0; have v0 := L.v0; have t3 := L.t3; have a3 := L.a3; have z3 := L.z3; have v3 := L.v3; have t4 := L.t4; have a4 := L.a4; have z4 := L.z4; have v4 := L.v4; have t22 := L.t22; have a22 := L.a22; have z22 := L.z22; have v22 := L.v22; have t25 := L.t25; have a25 := L.a25; have z25 := L.z25; have v25 := L.v25; have aE := L.aE; have zE := L.zE
  have FG := L.f76
  have S0 : Aside (SWK enc k w0 blk off d w) := S
  clear S
  go_enter FG, Try.ntmps76
  go_wp2
  go_loopg [10] n (fun kx s10 wr => ∃ (i : Nat) (dk : Array α), s10 = .int .i64 i ∧ i ≤ n ∧ n - i ≤ kx ∧ dk.size = d.size ∧ Aside (SWK enc k w0 blk off dk wr) ∧ dk = swpR d a b i)
  case atStart => exact ⟨0, d, rfl, Nat.zero_le _, Nat.le_refl _, rfl, S0, rfl⟩
  case round =>
    clear S0
    obtain ⟨i, dk, rfl, hin, hkx, hds, S1, heq⟩ := hrel
    have HE := Lib.hid heq
    clear heq
    by_cases hlt : i < n
    · have hltz : (i : Int) < (n : Int) := by omega
      go_wp2_with fail
      have ea : ((a : Int) + (i : Int)).toNat = a + i := by omega
      have pa : (0 : Int) ≤ (a : Int) + (i : Int) := by omega
      have ba : (a : Int) + (i : Int) < (d.size : Int) := by omega
      have ra : IntKind.i64.wrap ((a : Int) + (i : Int)) = (a : Int) + (i : Int) := by rw [IntKind.wrap_i64]; omega
      have eb : ((b : Int) + (i : Int)).toNat = b + i := by omega
      have pb : (0 : Int) ≤ (b : Int) + (i : Int) := by omega
      have bb : (b : Int) + (i : Int) < (d.size : Int) := by omega
      have rb : IntKind.i64.wrap ((b : Int) + (i : Int)) = (b : Int) + (i : Int) := by rw [IntKind.wrap_i64]; omega
      have S2 : Aside (SWK enc k w0 blk off (swp dk (a + i) (b + i)) ((wr.drew.setCells blk (off + (a + i) * k) (enc dk[b + i]!)).setCells blk (off + (b + i) * k) (enc dk[a + i]!))) := S1.out.swapped R (a + i) (b + i) (by omega) (by omega)
      have l1 := S1.out.ld1 R (by omega) P (a + i) (by omega)
      have l2 := S1.out.ld1 R (by omega) P (b + i) (by omega)
      have s1 := S1.out.st1 R (by omega) P (a + i) (by omega) dk[b + i]!
      have s2 := S1.out.st2 R (by omega) P (a + i) (b + i) (by omega) (by omega) dk[b + i]! dk[a + i]!
      have n1 : (enc dk[a + i]!).length = k := R.hk _
      have n2 : (enc dk[b + i]!).length = k := R.hk _
      generalize enc dk[a + i]! = cI at S2 l1 s2 n1
      generalize enc dk[b + i]! = cJ at S2 l2 s1 s2 n2
      clear S1
      go_big_region_o
      clear l1 l2 s1 s2
      generalize (wr.drew.setCells blk (off + (a + i) * k) cJ).setCells blk (off + (b + i) * k) cI = w2 at S2 ⊢
      go_wp2
      go_roundg (n - (i + 1))
      case measure => omega
      case rel => exact ⟨i + 1, swp dk (a + i) (b + i), by go_num, by omega, Nat.le_refl _, by rw [size_swp]; exact hds, S2, by rw [HE.out]; rfl⟩
    · obtain rfl : i = n := by omega
      go_wp2
      go_end0
      exact ⟨rfl, by rw [← HE.out]; exact S1.out⟩

/-- The places m - i .. m + j - 1: the first i behind the last j. -/
def rotL (m : Nat) : Nat → Nat → Nat → Array α → Array α
  | 0, _, _, d => d
  | f + 1, i, j, d => if i = j then swpR d (m - i) m i else if j < i then rotL m f (i - j) j (swpR d (m - i) m j) else rotL m f i (j - i) (swpR d (m - i) (m + j - i) i)
theorem rotL_eq (m f i : Nat) (d : Array α) : rotL m (f + 1) i i d = swpR d (m - i) m i := by rw [rotL, if_pos rfl]
theorem rotL_gt (m f i j : Nat) (d : Array α) (h : j < i) : rotL m (f + 1) i j d = rotL m f (i - j) j (swpR d (m - i) m j) := by rw [rotL, if_neg (by omega), if_pos h]
theorem rotL_lt (m f i j : Nat) (d : Array α) (h : i < j) : rotL m (f + 1) i j d = rotL m f i (j - i) (swpR d (m - i) (m + j - i) i) := by rw [rotL, if_neg (by omega), if_neg (by omega)]
theorem size_rotL (m f i j : Nat) (d : Array α) : (rotL m f i j d).size = d.size := by
  induction f generalizing i j d with
  | zero => rfl
  | succ f ih =>
    rw [rotL]
    split
    · rw [size_swpR]
    · split <;> rw [ih, size_swpR]

set_option maxHeartbeats 4000000 in
set_option maxRecDepth 1000000 in
theorem rot_any (k : Nat) (L : StLays P k) (enc : α → List Value) (g : Nat) (cb : Array Value) (blk off cap a m b : Nat) (d0 d : Array α) (w0 w : World)
    (R : RowK enc k w0 blk off d0) (hs : d0.size = d.size) (S : SWK enc k w0 blk off d w) (ham : a < m) (hmb : m < b) (hb : b ≤ d.size) (hsz : d.size < 4611686018427387904) :
    Calls P 75 #[.slice (some ⟨blk, off, none⟩) d.size cap, .int .i64 a, .int .i64 m, .int .i64 b, .func (.func g) #[] cb] w fun e w' => e = .returned (.tuple #[]) ∧ SWK enc k w0 blk off (rotL m (b - a) (m - a) (b - m) d) w' := by
  have mixed := L.mixed; have t0 := L.t0; have a0 := L.a0; have z0 := L.z0; have v0 := L.v0; have t3 := L.t3; have a3 := L.a3; have z3 := L.z3; have v3 := L.v3; have t4 := L.t4; have a4 := L.a4; have z4 := L.z4; have v4 := L.v4; have t22 := L.t22; have a22 := L.a22; have z22 := L.z22; have v22 := L.v22; have t25 := L.t25; have a25 := L.a25; have z25 := L.z25; have v25 := L.v25; have aE := L.aE; have zE := L.zE
  have e76 : ∀ args w, (callFunc 76 args).run P w = .ok (.enter 76 args) w := enters_of L.f76 (by kernel_rfl) rfl
  have FG := L.f75
  have S0 : Aside (SWK enc k w0 blk off d w) := S
  clear S
  have w1 : IntKind.i64.wrap ((m : Int) - (a : Int)) = (m : Int) - (a : Int) := by rw [IntKind.wrap_i64]; omega
  have w2 : IntKind.i64.wrap ((b : Int) - (m : Int)) = (b : Int) - (m : Int) := by rw [IntKind.wrap_i64]; omega
  go_enter FG, Try.ntmps75
  go_wp2
  go_loopg [10, 11] (b - a) (fun kx s10 s11 wr => ∃ (i j f : Nat) (dk : Array α), s10 = .int .i64 i ∧ s11 = .int .i64 j ∧ 0 < i ∧ 0 < j ∧ i ≤ m ∧ m + j ≤ d.size ∧ i + j ≤ kx ∧ i + j ≤ f ∧ dk.size = d.size ∧ Aside (SWK enc k w0 blk off dk wr) ∧ rotL m f i j dk = rotL m (b - a) (m - a) (b - m) d)
  case atStart => exact ⟨m - a, b - m, b - a, d, by congr 1; omega, by congr 1; omega, by omega, by omega, by omega, by omega, by omega, by omega, rfl, S0, rfl⟩
  case round =>
    clear S0 w1 w2
    obtain ⟨i, j, f, dk, rfl, rfl, hi0, hj0, him, hjs, hkx, hf, hds, S1, heq⟩ := hrel
    obtain ⟨f, rfl⟩ : ∃ f', f = f' + 1 := ⟨f - 1, by omega⟩
    have r1 : IntKind.i64.wrap ((m : Int) - (i : Int)) = (m : Int) - (i : Int) := by rw [IntKind.wrap_i64]; omega
    have e1 : ((m - i : Nat) : Int) = (m : Int) - (i : Int) := by omega
    rcases Nat.lt_trichotomy i j with hlt | rfl | hgt
    · rw [rotL_lt _ _ _ _ _ hlt] at heq
      have HE := Lib.hid heq
      clear heq
      have h1 : ¬ ((i : Int) = (j : Int)) := by omega
      have h2 : ¬ ((j : Int) < (i : Int)) := by omega
      have r2 : IntKind.i64.wrap ((m : Int) + (j : Int)) = (m : Int) + (j : Int) := by rw [IntKind.wrap_i64]; omega
      have r3 : IntKind.i64.wrap ((m : Int) + (j : Int) - (i : Int)) = (m : Int) + (j : Int) - (i : Int) := by rw [IntKind.wrap_i64]; omega
      have r4 : IntKind.i64.wrap ((j : Int) - (i : Int)) = (j : Int) - (i : Int) := by rw [IntKind.wrap_i64]; omega
      have e2 : ((m + j - i : Nat) : Int) = (m : Int) + (j : Int) - (i : Int) := by omega
      have hcon := swr_any k L enc g cb blk off cap (m - i) (m + j - i) i d0 dk w0 wr R (by omega) S1.out (by omega) (by omega) (by omega)
      rw [e1, e2, hds] at hcon
      have SZ := Lib.hid hds
      clear e1 e2 S1 hds
      go_wp2_with (go_at_fn 76; refine hcon.mono ?_; rintro e w' ⟨rfl, S2⟩)
      have S3 : Aside (SWK enc k w0 blk off _ w') := S2
      clear S2 hcon
      go_wp2
      go_roundg (i + (j - i))
      case measure => omega
      case rel => exact ⟨i, j - i, f, _, rfl, by congr 1; omega, hi0, by omega, him, by omega, Nat.le_refl _, by omega, by rw [size_swpR]; exact SZ.out, S3, HE.out⟩
    · rw [rotL_eq] at heq
      have hcon := swr_any k L enc g cb blk off cap (m - i) m i d0 dk w0 wr R (by omega) S1.out (by omega) (by omega) (by omega)
      rw [e1, hds, heq] at hcon
      clear e1 S1 hds heq
      go_wp2_with (go_at_fn 76; refine hcon.mono ?_; rintro e w' ⟨rfl, S2⟩)
      go_end0
      exact ⟨rfl, S2⟩
    · rw [rotL_gt _ _ _ _ _ hgt] at heq
      have HE := Lib.hid heq
      clear heq
      have h1 : ¬ ((i : Int) = (j : Int)) := by omega
      have h2 : ((j : Int) < (i : Int)) := by omega
      have r4 : IntKind.i64.wrap ((i : Int) - (j : Int)) = (i : Int) - (j : Int) := by rw [IntKind.wrap_i64]; omega
      have hcon := swr_any k L enc g cb blk off cap (m - i) m j d0 dk w0 wr R (by omega) S1.out (by omega) (by omega) (by omega)
      rw [e1, hds] at hcon
      have SZ := Lib.hid hds
      clear e1 S1 hds
      go_wp2_with (go_at_fn 76; refine hcon.mono ?_; rintro e w' ⟨rfl, S2⟩)
      have S3 : Aside (SWK enc k w0 blk off _ w') := S2
      clear S2 hcon
      go_wp2
      go_roundg (i - j + j)
      case measure => omega
      case rel => exact ⟨i - j, j, f, _, by congr 1; omega, rfl, by omega, hj0, by omega, hjs, Nat.le_refl _, by omega, by rw [size_swpR]; exact SZ.out, S3, HE.out⟩
end Go.Proofs.Ytmanmebgmhpilaa
