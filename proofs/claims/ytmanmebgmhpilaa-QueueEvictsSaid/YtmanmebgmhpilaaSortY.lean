/-
  slices.symMergeCmpFunc at elements of k cells: where both sides are longer than one place; and the whole.
-/
import Derived.Test.YtmanmebgmhpilaaSortX
import Derived.Deep.Cut
import Derived.Deep.CutRange
import Derived.Deep.DeepCutAuto
namespace Go.Proofs.Ytmanmebgmhpilaa
open Go.Shelf Go.RowKit Go.Lib Go.Sort
set_option linter.unusedVariables false
variable {P : Program} {α : Type} [Inhabited α]

def symSt (a m b : Nat) : Nat := if (a + b) / 2 < m then (a + b) / 2 + m - b else a
def symR (a m b : Nat) : Nat := if (a + b) / 2 < m then (a + b) / 2 else m
def symS (lt : α → α → Bool) (d : Array α) (a m b : Nat) : Nat := bis (fun c => !lt d[(a + b) / 2 + m - 1 - c]! d[c]!) (symR a m b - symSt a m b) (symSt a m b) (symR a m b)
theorem symSt_le (a m b : Nat) (h1 : a < m) (h2 : m < b) : a ≤ symSt a m b ∧ symSt a m b ≤ symR a m b ∧ symR a m b ≤ m ∧ symR a m b ≤ (a + b) / 2 ∧ (a + b) / 2 + m ≤ b + symSt a m b := by
  unfold symSt symR
  split <;> omega
def symD1 (lt : α → α → Bool) (d : Array α) (a m b : Nat) : Array α :=
  if symS lt d a m b < m ∧ m < (a + b) / 2 + m - symS lt d a m b then rotL m ((a + b) / 2 + m - symS lt d a m b - symS lt d a m b) (m - symS lt d a m b) ((a + b) / 2 + m - symS lt d a m b - m) d else d
def symD2 (F : Array α → Nat → Nat → Nat → Array α) (lt : α → α → Bool) (d : Array α) (a m b : Nat) : Array α :=
  if a < symS lt d a m b ∧ symS lt d a m b < (a + b) / 2 then F (symD1 lt d a m b) a (symS lt d a m b) ((a + b) / 2) else symD1 lt d a m b
def symD3 (F : Array α → Nat → Nat → Nat → Array α) (lt : α → α → Bool) (d : Array α) (a m b : Nat) : Array α :=
  if (a + b) / 2 < (a + b) / 2 + m - symS lt d a m b ∧ (a + b) / 2 + m - symS lt d a m b < b then F (symD2 F lt d a m b) ((a + b) / 2) ((a + b) / 2 + m - symS lt d a m b) b else symD2 F lt d a m b
theorem size_symD1 (lt : α → α → Bool) (d : Array α) (a m b : Nat) : (symD1 lt d a m b).size = d.size := by
  unfold symD1
  split
  · rw [size_rotL]
  · rfl
theorem size_symD2 (F : Array α → Nat → Nat → Nat → Array α) (hF : ∀ d a m b, (F d a m b).size = d.size) (lt : α → α → Bool) (d : Array α) (a m b : Nat) : (symD2 F lt d a m b).size = d.size := by
  unfold symD2
  split
  · rw [hF, size_symD1]
  · rw [size_symD1]
theorem size_symD3 (F : Array α → Nat → Nat → Nat → Array α) (hF : ∀ d a m b, (F d a m b).size = d.size) (lt : α → α → Bool) (d : Array α) (a m b : Nat) : (symD3 F lt d a m b).size = d.size := by
  unfold symD3
  split
  · rw [hF, size_symD2 F hF]
  · rw [size_symD2 F hF]

set_option maxHeartbeats 8000000 in
set_option maxRecDepth 1000000 in
theorem sym_rest (k : Nat) (L : StLays P k) (enc : α → List Value) (cf : α → α → Int) (g : Nat) (cb : Array Value) (blk off cap a m b : Nat) (d0 d : Array α) (w0 w : World)
    (eg : ∀ args w, (callFunc g args).run P w = .ok (.enter g args) w) (hcmp : CmpLays P g cb enc k cf blk off d0.size w0) (R : RowK enc k w0 blk off d0) (hs : d0.size = d.size) (S : SWK enc k w0 blk off d w)
    (ham : a < m) (hmb : m < b) (hb : b ≤ d.size) (hsz : d.size < 4611686018427387904) (h1 : ¬ m - a = 1) (h2 : ¬ b - m = 1)
    (F : Array α → Nat → Nat → Nat → Array α) (hF : ∀ d a m b, (F d a m b).size = d.size) (hrec : ∀ (a' m' b' : Nat) (d' : Array α) (W : World), a' < m' → m' < b' → b' ≤ d.size → b' - a' < b - a → d'.size = d.size → SWK enc k w0 blk off d' W →
      Calls P 72 #[.slice (some ⟨blk, off, none⟩) d.size cap, .int .i64 a', .int .i64 m', .int .i64 b', .func (.func g) #[] cb] W fun e w' => e = .returned (.tuple #[]) ∧ SWK enc k w0 blk off (F d' a' m' b') w') :
    Calls P 72 #[.slice (some ⟨blk, off, none⟩) d.size cap, .int .i64 a, .int .i64 m, .int .i64 b, .func (.func g) #[] cb] w fun e w' => e = .returned (.tuple #[]) ∧ SWK enc k w0 blk off (symD3 F (ltOf cf) d a m b) w' := by
  have mixed := L.mixed; have t0 := L.t0; have a0 := L.a0; have z0 := L.z0; have v0 := L.v0; have t3 := L.t3; have a3 := L.a3; have z3 := L.z3; have v3 := L.v3; have t4 := L.t4; have a4 := L.a4; have z4 := L.z4; have v4 := L.v4; have t22 := L.t22; have a22 := L.a22; have z22 := L.z22; have v22 := L.v22; have t25 := L.t25; have a25 := L.a25; have z25 := L.z25; have v25 := L.v25; have t26 := L.t26; have a26 := L.a26; have z26 := L.z26; have v26 := L.v26; have aE := L.aE; have zE := L.zE
  have FG := L.f72
  have S0 : Aside (SWK enc k w0 blk off d w) := S
  have HC : Aside _ := hcmp
  clear S hcmp
  have e75 : ∀ args w, (callFunc 75 args).run P w = .ok (.enter 75 args) w := enters_of L.f75 (by kernel_rfl) rfl
  have e72 : ∀ args w, (callFunc 72 args).run P w = .ok (.enter 72 args) w := enters_of L.f72 (by kernel_rfl) rfl
  have m1 : ¬ ((m : Int) - (a : Int) = 1) := by omega
  have m1b : ((m : Int) - (a : Int) == 1) = false := by simpa using m1
  have m2 : ¬ ((b : Int) - (m : Int) = 1) := by omega
  have m2b : ((b : Int) - (m : Int) == 1) = false := by simpa using m2
  have m1' : IntKind.i64.wrap ((m : Int) - (a : Int)) = (m : Int) - (a : Int) := by rw [IntKind.wrap_i64]; omega
  have m2' : IntKind.i64.wrap ((b : Int) - (m : Int)) = (b : Int) - (m : Int) := by rw [IntKind.wrap_i64]; omega
  obtain ⟨mid, hmid⟩ : ∃ mid, mid = (a + b) / 2 := ⟨_, rfl⟩
  have zmid : ((a : Int) + (b : Int)) / 2 = (mid : Int) := by omega
  have wn : IntKind.i64.wrap ((mid : Int) + (m : Int)) = (mid : Int) + (m : Int) := by rw [IntKind.wrap_i64]; omega
  have wp : IntKind.i64.wrap ((mid : Int) + (m : Int) - 1) = (mid : Int) + (m : Int) - 1 := by rw [IntKind.wrap_i64]; omega
  have wb : IntKind.i64.wrap ((mid : Int) + (m : Int) - (b : Int)) = (mid : Int) + (m : Int) - (b : Int) := by rw [IntKind.wrap_i64]; omega
  have HR : Aside _ := hrec
  have HM : Aside _ := hmid
  have HFz : Aside _ := hF
  have hst := symSt_le a m b ham hmb
  have ST0 : Aside _ := hst
  have RF : Aside (∀ (s e : Nat) (W : World), s < m → m < e → e ≤ d.size → SWK enc k w0 blk off d W → Calls P 75 #[.slice (some ⟨blk, off, none⟩) d.size cap, .int .i64 s, .int .i64 m, .int .i64 e, .func (.func g) #[] cb] W fun e' w' => e' = .returned (.tuple #[]) ∧ SWK enc k w0 blk off (rotL m (e - s) (m - s) (e - m) d) w') :=
    fun s e W h1 h2 h3 h4 => rot_any k L enc g cb blk off cap s m e d0 d w0 W R hs h4 h1 h2 h3 hsz
  clear hrec hmid hF hst
  go_enter FG, Try.ntmps72
  go_upto_if 140 with fail
  go_cut [20, 21] (fun s20 s21 wx => s20 = .int .i64 (symSt a m b) ∧ s21 = .int .i64 (symR a m b) ∧ wx = w)
  case first =>
    as_aux_lemma =>
      by_cases hm : mid < m
      · have hmz : (mid : Int) < (m : Int) := by omega
        have q1 : symSt a m b = mid + m - b := by unfold symSt; rw [← HM.out, if_pos hm]
        have q2 : symR a m b = mid := by unfold symR; rw [← HM.out, if_pos hm]
        have Q : Aside _ := And.intro q1 q2
        clear q1 q2
        go_wp2
        go_meet
        case rel =>
          refine ⟨?_, ?_, rfl⟩
          · rw [Q.out.1]; congr 1; have := HM.out; omega
          · rw [Q.out.2]
      · have hmz : ¬ (mid : Int) < (m : Int) := by omega
        have q1 : symSt a m b = a := by unfold symSt; rw [← HM.out, if_neg hm]
        have q2 : symR a m b = m := by unfold symR; rw [← HM.out, if_neg hm]
        have Q : Aside _ := And.intro q1 q2
        clear q1 q2
        go_wp2
        go_meet
        case rel => exact ⟨by rw [Q.out.1], by rw [Q.out.2], rfl⟩
  case rest =>
  as_aux_lemma =>
  obtain ⟨rfl, rfl, rfl⟩ := hcut
  obtain ⟨sa, sr, hr1, hr2, hr3⟩ := ST0.out
  rw [← HM.out] at hr2 hr3
  obtain ⟨st, hst⟩ : ∃ st, symSt a m b = st := ⟨_, rfl⟩
  obtain ⟨rr, hrr⟩ : ∃ rr, symR a m b = rr := ⟨_, rfl⟩
  obtain ⟨K, hK⟩ : ∃ K, K = symS (ltOf cf) d a m b := ⟨_, rfl⟩
  have DS : Aside (K = bis (fun c => !ltOf cf d[mid + m - 1 - c]! d[c]!) (rr - st) st rr) := by show _ = _; rw [hK, symS, hst, hrr, ← HM.out]
  rw [hst] at sa sr hr3
  rw [hrr] at sr hr1 hr2
  rw [hst, hrr]
  have HKK : Aside _ := hK
  clear hst hrr hK wb
  go_wp2
  go_loopg [20, 21] (rr - st) (fun kx s10 s11 wr => ∃ (i j f : Nat), s10 = .int .i64 i ∧ s11 = .int .i64 j ∧ st ≤ i ∧ i ≤ j ∧ j ≤ rr ∧ j - i ≤ kx ∧ j - i ≤ f ∧ Aside (SWK enc k w0 blk off d wr) ∧ Hid (bis (fun c => !ltOf cf d[mid + m - 1 - c]! d[c]!) f i j = K))
  case atStart => exact ⟨st, rr, rr - st, rfl, rfl, Nat.le_refl _, by omega, Nat.le_refl _, Nat.le_refl _, Nat.le_refl _, S0, DS.out.symm⟩
  case round =>
    clear S0 DS
    obtain ⟨i, j, f, rfl, rfl, hi0, hij, hjb, hkx, hf, S1, HB⟩ := hrel
    by_cases hlt : i < j
    · obtain ⟨f, rfl⟩ : ∃ f', f = f' + 1 := ⟨f - 1, by omega⟩
      have hltz : (i : Int) < (j : Int) := by omega
      obtain ⟨q, hq⟩ : ∃ q, q = mid + m - 1 - (i + j) / 2 := ⟨_, rfl⟩
      have hqs : q < d.size := by omega
      have zq : (mid : Int) + (m : Int) - 1 - ((i : Int) + (j : Int)) / 2 = (q : Int) := by omega
      have HQ := Lib.hid hq
      clear hq
      cases hlv : ltOf cf d[q]! d[(i + j) / 2]! with
      | true =>
        have HB2 : Hid _ := HB.out.symm.trans (bis_back _ f i j hlt (by show (!ltOf cf d[mid + m - 1 - (i + j) / 2]! d[(i + j) / 2]!) = _; rw [← HQ.out, hlv]; rfl))
        have ex : ((q : Int)).toNat = q := by omega
        have px : (0 : Int) ≤ (q : Int) := by omega
        have bx : (q : Int) < (d.size : Int) := by omega
        have rx : IntKind.i64.wrap ((q : Int)) = (q : Int) := by rw [IntKind.wrap_i64]; omega
        have ey : (((i : Int) + (j : Int)) / 2).toNat = (i + j) / 2 := by omega
        have py : (0 : Int) ≤ ((i : Int) + (j : Int)) / 2 := by omega
        have by' : ((i : Int) + (j : Int)) / 2 < (d.size : Int) := by omega
        have ry : IntKind.i64.wrap (((i : Int) + (j : Int)) / 2) = ((i : Int) + (j : Int)) / 2 := by rw [IntKind.wrap_i64]; omega
        obtain ⟨vx, hvx⟩ : ∃ v, v = d[q]! := ⟨_, rfl⟩
        obtain ⟨vy, hvy⟩ : ∃ v, v = d[(i + j) / 2]! := ⟨_, rfl⟩
        have l1 := S1.out.ld R (by omega) P (q) (by omega)
        have l2 := S1.out.ld R (by omega) P ((i + j) / 2) (by omega)
        rw [← hvx] at l1
        rw [← hvy] at l2
        have hc := S1.out.cmp HC.out (by omega) vx vy
        have hv : cf vx vy < 0 := by rw [hvx, hvy]; exact of_decide_eq_true hlv
        have hd : decide (cf vx vy < 0) = true := decide_eq_true hv
        clear hvx hvy
        go_wp2_with fail
        go_quiet_grown (first | (go_at_fn g; refine Calls.grown_of (hc _ _)))
        have S2 : Aside (SWK enc k w0 blk off d (grow (wr.drewN nq) osq)) := S1.out.grown nq osq
        clear l1 l2 hc S1 hv hd
        generalize grow (wr.drewN nq) osq = w2 at S2 ⊢
        clear nq osq ex px bx rx ey py by' ry
        go_wp2
        go_roundg ((i + j) / 2 - i)
        case measure => omega
        case rel => exact ⟨i, (i + j) / 2, f, rfl, by rw [show ((i : Int) + (j : Int)) / 2 = (((i + j) / 2 : Nat) : Int) by omega], by omega, by omega, by omega, Nat.le_refl _, by omega, S2, HB2.out.symm⟩
      | false =>
        have HB2 : Hid _ := HB.out.symm.trans (bis_go _ f i j hlt (by show (!ltOf cf d[mid + m - 1 - (i + j) / 2]! d[(i + j) / 2]!) = _; rw [← HQ.out, hlv]; rfl))
        have ex : ((q : Int)).toNat = q := by omega
        have px : (0 : Int) ≤ (q : Int) := by omega
        have bx : (q : Int) < (d.size : Int) := by omega
        have rx : IntKind.i64.wrap ((q : Int)) = (q : Int) := by rw [IntKind.wrap_i64]; omega
        have ey : (((i : Int) + (j : Int)) / 2).toNat = (i + j) / 2 := by omega
        have py : (0 : Int) ≤ ((i : Int) + (j : Int)) / 2 := by omega
        have by' : ((i : Int) + (j : Int)) / 2 < (d.size : Int) := by omega
        have ry : IntKind.i64.wrap (((i : Int) + (j : Int)) / 2) = ((i : Int) + (j : Int)) / 2 := by rw [IntKind.wrap_i64]; omega
        obtain ⟨vx, hvx⟩ : ∃ v, v = d[q]! := ⟨_, rfl⟩
        obtain ⟨vy, hvy⟩ : ∃ v, v = d[(i + j) / 2]! := ⟨_, rfl⟩
        have l1 := S1.out.ld R (by omega) P (q) (by omega)
        have l2 := S1.out.ld R (by omega) P ((i + j) / 2) (by omega)
        rw [← hvx] at l1
        rw [← hvy] at l2
        have hc := S1.out.cmp HC.out (by omega) vx vy
        have hv : ¬ cf vx vy < 0 := by rw [hvx, hvy]; exact of_decide_eq_false hlv
        have hd : decide (cf vx vy < 0) = false := decide_eq_false hv
        clear hvx hvy
        go_wp2_with fail
        go_quiet_grown (first | (go_at_fn g; refine Calls.grown_of (hc _ _)))
        have S2 : Aside (SWK enc k w0 blk off d (grow (wr.drewN nq) osq)) := S1.out.grown nq osq
        clear l1 l2 hc S1 hv hd
        generalize grow (wr.drewN nq) osq = w2 at S2 ⊢
        clear nq osq ex px bx rx ey py by' ry
        go_wp2
        go_roundg (j - ((i + j) / 2 + 1))
        case measure => omega
        case rel => exact ⟨(i + j) / 2 + 1, j, f, by rw [show ((i : Int) + (j : Int)) / 2 + 1 = (((i + j) / 2 + 1 : Nat) : Int) by omega], rfl, by omega, by omega, by omega, Nat.le_refl _, by omega, S2, HB2.out.symm⟩
    · obtain rfl : i = j := by omega
      have hiK : i = K := (bis_end _ f i i (by omega)).symm.trans HB.out
      subst hiK
      clear HB
      have we : IntKind.i64.wrap ((mid : Int) + (m : Int) - (i : Int)) = (mid : Int) + (m : Int) - (i : Int) := by rw [IntKind.wrap_i64]; omega
      obtain ⟨e, he⟩ : ∃ e, e = mid + m - i := ⟨_, rfl⟩
      have ze : (mid : Int) + (m : Int) - (i : Int) = (e : Int) := by omega
      rw [ze] at we
      have HE := Lib.hid he
      have he1 : e ≤ b := by omega
      have he2 : mid ≤ e := by omega
      clear he
      clear m1 m1b m2 m2b m1' m2' wp
      go_upto_region 39 with fail
      go_cut [185] (fun s wx => s = .bool (decide (i < m ∧ m < e)) ∧ Aside (SWK enc k w0 blk off d wx))
      case first =>
        as_aux_lemma =>
          by_cases c1 : i < m
          · have c1z : (i : Int) < (m : Int) := by omega
            by_cases c2 : m < e
            · have c2z : (m : Int) < (e : Int) := by omega
              have hq : decide (i < m ∧ m < e) = true := decide_eq_true ⟨c1, c2⟩
              have HQ := Lib.hid hq
              clear hq
              go_wp2
              go_meet
              case rel => exact ⟨by rw [HQ.out], S1⟩
            · have c2z : ¬ (m : Int) < (e : Int) := by omega
              have hq : decide (i < m ∧ m < e) = false := decide_eq_false fun h => c2 h.2
              have HQ := Lib.hid hq
              clear hq
              go_wp2
              go_meet
              case rel => exact ⟨by rw [HQ.out], S1⟩
          · have c1z : ¬ (i : Int) < (m : Int) := by omega
            have hq : decide (i < m ∧ m < e) = false := decide_eq_false fun h => c1 h.1
            have HQ := Lib.hid hq
            clear hq
            go_wp2
            go_meet
            case rel => exact ⟨by rw [HQ.out], S1⟩
      case rest =>
      as_aux_lemma =>
      obtain ⟨rfl, S1⟩ := hcut
      go_upto_if 185 with fail
      go_cut [] (fun wx => Aside (SWK enc k w0 blk off (symD1 (ltOf cf) d a m b) wx))
      case first =>
        as_aux_lemma =>
          by_cases c : i < m ∧ m < e
          · obtain ⟨c1, c2⟩ := c
            have hq : decide (i < m ∧ m < e) = true := decide_eq_true ⟨c1, c2⟩
            have hcon := RF.out i e _ c1 c2 (by omega) S1.out
            have hD : rotL m (e - i) (m - i) (e - m) d = symD1 (ltOf cf) d a m b := by unfold symD1; rw [← HKK.out, ← HM.out, ← HE.out, if_pos ⟨c1, c2⟩]
            rw [hD] at hcon
            clear hD S1
            go_wp2_with (go_at_fn 75; refine hcon.mono ?_; rintro e' w' ⟨rfl, S2⟩)
            go_meet
            case rel => exact S2
          · have hq : decide (i < m ∧ m < e) = false := decide_eq_false c
            have hD : symD1 (ltOf cf) d a m b = d := by unfold symD1; rw [← HKK.out, ← HM.out, ← HE.out, if_neg c]
            go_wp2
            go_meet
            case rel => rw [hD]; exact S1
      case rest =>
      as_aux_lemma =>
      clear S1
      have S1 := hcut
      clear hcut
      generalize hd1 : symD1 (ltOf cf) d a m b = d1 at S1 ⊢
      have z1 : d1.size = d.size := by rw [← hd1, size_symD1]
      have HD1 : Aside _ := hd1
      clear hd1
      go_upto_region 41 with fail
      go_cut [199] (fun s wx => s = .bool (decide (a < i ∧ i < mid)) ∧ Aside (SWK enc k w0 blk off d1 wx))
      case first =>
        as_aux_lemma =>
          by_cases c1 : a < i
          · have c1z : (a : Int) < (i : Int) := by omega
            by_cases c2 : i < mid
            · have c2z : (i : Int) < (mid : Int) := by omega
              have hq : decide (a < i ∧ i < mid) = true := decide_eq_true ⟨c1, c2⟩
              have HQ := Lib.hid hq
              clear hq
              go_wp2
              go_meet
              case rel => exact ⟨by rw [HQ.out], S1⟩
            · have c2z : ¬ (i : Int) < (mid : Int) := by omega
              have hq : decide (a < i ∧ i < mid) = false := decide_eq_false fun h => c2 h.2
              have HQ := Lib.hid hq
              clear hq
              go_wp2
              go_meet
              case rel => exact ⟨by rw [HQ.out], S1⟩
          · have c1z : ¬ (a : Int) < (i : Int) := by omega
            have hq : decide (a < i ∧ i < mid) = false := decide_eq_false fun h => c1 h.1
            have HQ := Lib.hid hq
            clear hq
            go_wp2
            go_meet
            case rel => exact ⟨by rw [HQ.out], S1⟩
      case rest =>
      as_aux_lemma =>
      obtain ⟨rfl, S1⟩ := hcut
      go_upto_if 199 with fail
      go_cut [] (fun wx => Aside (SWK enc k w0 blk off (symD2 F (ltOf cf) d a m b) wx))
      case first =>
        as_aux_lemma =>
          by_cases c : a < i ∧ i < mid
          · obtain ⟨c1, c2⟩ := c
            have hq : decide (a < i ∧ i < mid) = true := decide_eq_true ⟨c1, c2⟩
            have hcon := HR.out a i mid d1 _ c1 c2 (by omega) (by omega) z1 S1.out
            have hD : F d1 a i mid = symD2 F (ltOf cf) d a m b := by unfold symD2; rw [← HKK.out, ← HM.out, HD1.out, if_pos ⟨c1, c2⟩]
            rw [hD] at hcon
            clear hD S1
            go_wp2_with (go_at_fn 72; refine hcon.mono ?_; rintro e' w' ⟨rfl, S2⟩)
            go_meet
            case rel => exact S2
          · have hq : decide (a < i ∧ i < mid) = false := decide_eq_false c
            have hD : symD2 F (ltOf cf) d a m b = d1 := by unfold symD2; rw [← HKK.out, ← HM.out, HD1.out, if_neg c]
            go_wp2
            go_meet
            case rel => rw [hD]; exact S1
      case rest =>
      as_aux_lemma =>
      clear S1
      have S1 := hcut
      clear hcut
      generalize hd2 : symD2 F (ltOf cf) d a m b = d2 at S1 ⊢
      have z2 : d2.size = d.size := by rw [← hd2, size_symD2 F HFz.out]
      have HD2 : Aside _ := hd2
      clear hd2
      go_upto_region 43 with fail
      go_cut [213] (fun s wx => s = .bool (decide (mid < e ∧ e < b)) ∧ Aside (SWK enc k w0 blk off d2 wx))
      case first =>
        as_aux_lemma =>
          by_cases c1 : mid < e
          · have c1z : (mid : Int) < (e : Int) := by omega
            by_cases c2 : e < b
            · have c2z : (e : Int) < (b : Int) := by omega
              have hq : decide (mid < e ∧ e < b) = true := decide_eq_true ⟨c1, c2⟩
              have HQ := Lib.hid hq
              clear hq
              go_wp2
              go_meet
              case rel => exact ⟨by rw [HQ.out], S1⟩
            · have c2z : ¬ (e : Int) < (b : Int) := by omega
              have hq : decide (mid < e ∧ e < b) = false := decide_eq_false fun h => c2 h.2
              have HQ := Lib.hid hq
              clear hq
              go_wp2
              go_meet
              case rel => exact ⟨by rw [HQ.out], S1⟩
          · have c1z : ¬ (mid : Int) < (e : Int) := by omega
            have hq : decide (mid < e ∧ e < b) = false := decide_eq_false fun h => c1 h.1
            have HQ := Lib.hid hq
            clear hq
            go_wp2
            go_meet
            case rel => exact ⟨by rw [HQ.out], S1⟩
      case rest =>
      as_aux_lemma =>
      obtain ⟨rfl, S1⟩ := hcut
      by_cases c : mid < e ∧ e < b
      · obtain ⟨c1, c2⟩ := c
        have hq : decide (mid < e ∧ e < b) = true := decide_eq_true ⟨c1, c2⟩
        have hcon := HR.out mid e b d2 _ c1 c2 (by omega) (by omega) z2 S1.out
        have hD : F d2 mid e b = symD3 F (ltOf cf) d a m b := by unfold symD3; rw [← HKK.out, ← HM.out, ← HE.out, HD2.out, if_pos ⟨c1, c2⟩]
        rw [hD] at hcon
        clear hD S1
        go_wp2_with (go_at_fn 72; refine hcon.mono ?_; rintro e' w' ⟨rfl, S2⟩)
        go_end0
        exact ⟨rfl, S2⟩
      · have hq : decide (mid < e ∧ e < b) = false := decide_eq_false c
        have hD : symD3 F (ltOf cf) d a m b = d2 := by unfold symD3; rw [← HKK.out, ← HM.out, ← HE.out, if_neg c, HD2.out]
        go_wp2
        go_end0
        exact ⟨rfl, by rw [hD]; exact S1.out⟩
end Go.Proofs.Ytmanmebgmhpilaa
