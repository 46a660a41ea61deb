/-
  Layer 15 (walk), the document's: Up and Down of counts.
-/
import Derived.Test.YtagfbnfbiadpfaaGreatHist7
import Derived.Test.YtagfbnfbiadpfaaGreatWalk2
namespace Go.Proofs.YtagfbnfbiadpfaaGreat
open Go.RowKit Go.Shelf
set_option linter.unusedVariables false
set_option linter.unusedSimpArgs false

def rmoreW (l : List Int) (th lift : Int) : Int := bAdd (rbelow l (keep th l.length)) (bPart (rbelow l l.length) lift)
def rupW (l : List Int) (th lift : Int) : Int :=
  firstOf (upV (keep th l.length + 1) ((l.length : Int) - keep th l.length).toNat) (fun x => decide (rmoreW l th lift ≤ rbelow l x)) l.length
theorem keep_in (n : Int) (m : Nat) : 0 ≤ keep n m ∧ keep n m ≤ m := by
  unfold keep
  omega
theorem mem_upV {fr p : Int} {k : Nat} (h : p ∈ upV fr k) : ∃ i : Nat, i < k ∧ p = fr + i := by
  unfold upV upto at h
  obtain ⟨i, hi, e⟩ := List.mem_map.1 h
  exact ⟨i, List.mem_range.1 hi, e.symm⟩
theorem upV_pre (fr : Int) (a b : Nat) (h : a ≤ b) : upV fr a <+: upV fr b := upto_pre _ a b h
theorem upV_succ (fr : Int) (k : Nat) : upV fr (k + 1) = upV fr k ++ [fr + (k : Int)] := upto_succ _ k
/-- What is first in a row upwards, once it is found. -/
theorem up_found {fr : Int} {N k : Nat} {q : Int → Bool} {o : Int} (hk : k < N) (hx : q (fr + k) = true) (h : ∀ j : Nat, j < k → q (fr + j) = false) : firstOf (upV fr N) q o = fr + k :=
  firstOf_some (f := upV fr) rfl (Nat.succ_le_of_lt hk) (upV_pre fr) (upV_succ fr k) hx (fun p hp => by obtain ⟨i, hi, rfl⟩ := mem_upV hp; exact h i hi)
theorem up_gone {fr : Int} {N : Nat} {q : Int → Bool} {o : Int} (ho : N = 0 ∨ o = fr + ((N - 1 : Nat) : Int)) (h : ∀ j : Nat, j + 1 < N → q (fr + j) = false) : firstOf (upV fr N) q o = o := by
  rcases ho with h0 | h0
  · subst h0
    exact firstOf_none (fun p hp => by obtain ⟨i, hi, _⟩ := mem_upV hp; omega)
  · by_cases hN : N = 0
    · subst hN
      exact firstOf_none (fun p hp => by obtain ⟨i, hi, _⟩ := mem_upV hp; omega)
    · by_cases hq : q (fr + ((N - 1 : Nat) : Int)) = true
      · rw [up_found (k := N - 1) (by omega) hq (fun j hj => h j (by omega)), h0]
      · refine firstOf_none (fun p hp => ?_)
        obtain ⟨i, hi, rfl⟩ := mem_upV hp
        by_cases hiN : i + 1 < N
        · exact h i hiN
        · have e : i = N - 1 := by omega
          rw [e]
          simpa using hq
theorem rup15_any (a : Option Addr) (c : Nat) (l : List Int) (th lift : Int) (w : World) (m : l.length ≤ 128) (h : IntsAt w a l) :
    Calls Tryz.prog 41 #[.slice a l.length c, .int .i64 th, .int .i64 lift] w fun e w' => e = .returned (.int .i64 (rupW l th lift)) ∧ w = w' := by
  have HB := Lib.hid (fun T => rbelow_any a c l T w (by omega) h)
  obtain ⟨k0, k1⟩ := keep_in th l.length
  have E := Lib.hid (show rupW l th lift = firstOf (upV (keep th l.length + 1) ((l.length : Int) - keep th l.length).toNat) (fun x => decide (rmoreW l th lift ≤ rbelow l x)) l.length from rfl)
  have EM := Lib.hid (show bAdd (rbelow l (keep th l.length)) (bPart (rbelow l l.length) lift) = rmoreW l th lift from rfl)
  clear h
  go_enter Tryz.func41, Tryz.ntmps41
  go_wp2_with fail
  refine (rkeep_any _ _ _).mono ?_
  rintro e w' ⟨rfl, rfl⟩
  generalize keep th l.length = t at *
  have i0 : IntKind.i64.wrap (t + 1) = t + 1 := IntWalk.i64_in _ (by omega)
  go_wp2_with (first | (go_at_call 68; (with_reducible refine (HB.out _).mono ?_); rintro e w' ⟨rfl, rfl⟩) | (go_at_call 69; (with_reducible refine (rpart_any _ _ _).mono ?_); rintro e w' ⟨rfl, rfl⟩) | (go_at_call 59; (with_reducible refine (radd_any _ _ _).mono ?_); rintro e w' ⟨rfl, rfl⟩))
  rw [EM.out]
  go_loop [9] (fun x => ∃ k : Nat, k ≤ ((l.length : Int) - t).toNat ∧ (x = .int .i64 (t + 1 + k)) ∧ ∀ j : Nat, j < k → rbelow l (t + 1 + j) < rmoreW l th lift) (fun x => l.length + 1 - (intOf x).toNat)
  case atStart => exact ⟨0, Nat.zero_le _, by go_num, fun j hj => absurd hj (by omega)⟩
  case round =>
    obtain ⟨k, hk, rfl, hb⟩ := hrel
    have HH := Lib.hid hb
    clear hb
    by_cases hlt : t + 1 + k < l.length
    · have hkk : rbelow l (t + 1 + k) < rmoreW l th lift ∨ rmoreW l th lift ≤ rbelow l (t + 1 + k) := by omega
      rcases hkk with hkk | hkk
      · have HK := Lib.hid (show ∀ j : Nat, j < k + 1 → rbelow l (t + 1 + j) < rmoreW l th lift from fun j hj => by
          by_cases e : j = k
          · subst e; exact hkk
          · exact HH.out j (by omega))
        have i4 : ¬ (rmoreW l th lift ≤ rbelow l (t + 1 + k)) := by omega
        go_wp2_with (go_at_call 68; (with_reducible refine (HB.out _).mono ?_); rintro e w' ⟨rfl, rfl⟩)
        go_round
        case rel => exact ⟨k + 1, by omega, by go_num, HK.out⟩
        case measure => simp [intOf]; omega
      · have hE := Lib.hid (show rupW l th lift = t + 1 + k by
          rw [E.out]
          exact up_found (by omega) (by simpa using hkk) (fun j hj => by simpa using HH.out j hj))
        go_wp2_with (go_at_call 68; (with_reducible refine (HB.out _).mono ?_); rintro e w' ⟨rfl, rfl⟩)
        go_ret
        exact ⟨ret_int hE.out.symm, rfl⟩
    · have hE := Lib.hid (show rupW l th lift = l.length by
        rw [E.out]
        refine up_gone ?_ (fun j hj => by simpa using HH.out j (by omega))
        omega)
      go_wp2_with fail
      go_ret
      exact ⟨ret_int hE.out.symm, rfl⟩
def rfewW (l : List Int) (th cut : Int) : Int := rbelow l (keep th l.length) - bPart (rbelow l (keep th l.length)) cut
def rdownW (l : List Int) (th fl cut : Int) : Int :=
  if keep th l.length ≤ keep fl l.length then keep th l.length
  else firstOf (dnV (keep th l.length - 1) (keep th l.length - keep fl l.length).toNat) (fun x => decide (rbelow l x ≤ rfewW l th cut)) (keep fl l.length)
theorem dnV_cons (fr : Int) (k : Nat) : dnV fr (k + 1) = fr :: dnV (fr - 1) k := by
  unfold dnV upto
  rw [List.range_succ_eq_map, List.map_cons, List.map_map]
  congr 1
  · show fr - ((0 : Nat) : Int) = fr
    omega
  · apply List.map_congr_left
    intro i _
    show fr - ((i + 1 : Nat) : Int) = fr - 1 - (i : Int)
    omega
theorem firstOf_cons (x : Int) (l : List Int) (q : Int → Bool) (o : Int) : firstOf (x :: l) q o = if q x = true then x else firstOf l q o := by
  unfold firstOf
  rw [List.find?_cons]
  cases q x <;> rfl
theorem rsum_rng (l : List Int) : ∀ k, 0 ≤ rsum l k ∧ rsum l k ≤ 2147483647
  | 0 => ⟨Int.le_refl 0, (by decide : (0 : Int) ≤ 2147483647)⟩
  | k + 1 => bAdd_rng _ _
theorem rdown15_any (a : Option Addr) (c : Nat) (l : List Int) (th fl cut : Int) (w : World) (m : l.length ≤ 128) (h : IntsAt w a l) :
    Calls Tryz.prog 42 #[.slice a l.length c, .int .i64 th, .int .i64 fl, .int .i64 cut] w fun e w' => e = .returned (.int .i64 (rdownW l th fl cut)) ∧ w = w' := by
  have HB := Lib.hid (fun T => rbelow_any a c l T w (by omega) h)
  obtain ⟨k0, k1⟩ := keep_in th l.length
  obtain ⟨k2, k3⟩ := keep_in fl l.length
  have E := Lib.hid (show rdownW l th fl cut = if keep th l.length ≤ keep fl l.length then keep th l.length else firstOf (dnV (keep th l.length - 1) (keep th l.length - keep fl l.length).toNat) (fun x => decide (rbelow l x ≤ rfewW l th cut)) (keep fl l.length) from rfl)
  have EM := Lib.hid (show rbelow l (keep th l.length) - bPart (rbelow l (keep th l.length)) cut = rfewW l th cut from rfl)
  have hr := rsum_rng l (min l.length (keep th l.length).toNat)
  have hr0 : 0 ≤ rbelow l (keep th l.length) ∧ rbelow l (keep th l.length) ≤ 2147483647 := hr
  clear h hr
  go_enter Tryz.func42, Tryz.ntmps42
  go_wp2_with fail
  refine (rkeep_any _ _ _).mono ?_
  rintro e w' ⟨rfl, rfl⟩
  go_wp2_with fail
  refine (rkeep_any _ _ _).mono ?_
  rintro e w' ⟨rfl, rfl⟩
  generalize keep th l.length = t at *
  generalize keep fl l.length = f at *
  by_cases htf : t ≤ f
  · have hE := Lib.hid (show rdownW l th fl cut = t by rw [E.out, if_pos htf])
    go_wp2_with fail
    go_ret
    exact ⟨ret_int hE.out.symm, rfl⟩
  · have hft : f < t := by omega
    have hE := Lib.hid (show rdownW l th fl cut = firstOf (dnV (t - 1) (t - f).toNat) (fun x => decide (rbelow l x ≤ rfewW l th cut)) f by rw [E.out, if_neg htf])
    have hp : 0 ≤ bPart (rbelow l t) cut ∧ bPart (rbelow l t) cut ≤ 2147483647 := by
      have hk : 0 ≤ keep cut 100 ∧ keep cut 100 ≤ 100 := by unfold keep; omega
      unfold bPart
      rw [cnt_id _ (by omega) (by omega)]
      have mm := mul_rng (rbelow l t) (keep cut 100) 2147483647 100 hr0.1 hr0.2 hk.1 hk.2
      omega
    have i5 : IntKind.i64.wrap (rbelow l t - bPart (rbelow l t) cut) = rbelow l t - bPart (rbelow l t) cut := by
      generalize rbelow l t = p at *
      generalize bPart p cut = q at *
      exact IntWalk.i64_in _ (by omega)
    go_wp2_with (first | (go_at_call 68; (with_reducible refine (HB.out _).mono ?_); rintro e w' ⟨rfl, rfl⟩) | (go_at_call 69; (with_reducible refine (rpart_any _ _ _).mono ?_); rintro e w' ⟨rfl, rfl⟩))
    rw [EM.out]
    go_loop [13, 14] (fun b x => ∃ k : Nat, k ≤ (t - f).toNat ∧ x = .int .i64 (f + k) ∧ b = .int .i64 (firstOf (dnV (f + k - 1) k) (fun x => decide (rbelow l x ≤ rfewW l th cut)) f)) (fun _ x => l.length - (intOf x).toNat)
    case atStart => exact ⟨0, Nat.zero_le _, by go_num, rfl⟩
    case round =>
      obtain ⟨k, hk, rfl, rfl⟩ := hrel
      by_cases hlt : f + k < t
      · by_cases hkk : rbelow l (f + k) ≤ rfewW l th cut
        · have HK := Lib.hid (show f + k = firstOf (dnV (f + ((k + 1 : Nat) : Int) - 1) (k + 1)) (fun x => decide (rbelow l x ≤ rfewW l th cut)) f by
            rw [show f + ((k + 1 : Nat) : Int) - 1 = f + k by omega, dnV_cons, firstOf_cons, if_pos (by simpa using hkk)])
          go_wp2_with (go_at_call 68; (with_reducible refine (HB.out _).mono ?_); rintro e w' ⟨rfl, rfl⟩)
          go_round
          case rel => exact ⟨k + 1, by omega, by go_num, congrArg (Value.int .i64) HK.out⟩
          case measure => simp [intOf]; omega
        · have HK := Lib.hid (show firstOf (dnV (f + k - 1) k) (fun x => decide (rbelow l x ≤ rfewW l th cut)) f = firstOf (dnV (f + ((k + 1 : Nat) : Int) - 1) (k + 1)) (fun x => decide (rbelow l x ≤ rfewW l th cut)) f by
            rw [show f + ((k + 1 : Nat) : Int) - 1 = f + k by omega, dnV_cons, firstOf_cons, if_neg (by simpa using hkk)])
          go_wp2_with (go_at_call 68; (with_reducible refine (HB.out _).mono ?_); rintro e w' ⟨rfl, rfl⟩)
          go_round
          case rel => exact ⟨k + 1, by omega, by go_num, congrArg (Value.int .i64) HK.out⟩
          case measure => simp [intOf]; omega
      · have hkt : k = (t - f).toNat := by omega
        have hF := Lib.hid (show rdownW l th fl cut = firstOf (dnV (f + k - 1) k) (fun x => decide (rbelow l x ≤ rfewW l th cut)) f by
          rw [hE.out, ← hkt, show f + (k : Int) - 1 = t - 1 by omega])
        clear hkt
        go_wp2_with fail
        go_ret
        exact ⟨ret_int hF.out.symm, rfl⟩
/-- What the document says is what is written. -/
theorem rup_eq (lv : Nat) (c l : List Int) (hl : l = c.take lv) (hlv : lv ≤ c.length) (h128 : lv ≤ 128) (th lift : Int) : rupW l th lift = upW lv c th lift := by
  have hlen : l.length = lv := by rw [hl, List.length_take]; omega
  have hb := fun T => belowH_eq lv c l hl hlv T
  have e128 : belowH lv c 128 = belowH lv c lv := by
    unfold belowH
    rw [if_neg (by decide), if_neg (by omega)]
    congr 1
    omega
  unfold rupW upW rmoreW moreW
  rw [hlen, e128]
  simp only [hb]
theorem rdown_eq (lv : Nat) (c l : List Int) (hl : l = c.take lv) (hlv : lv ≤ c.length) (th fl cut : Int) : rdownW l th fl cut = downW lv c th fl cut := by
  have hlen : l.length = lv := by rw [hl, List.length_take]; omega
  have hb := fun T => belowH_eq lv c l hl hlv T
  unfold rdownW downW rfewW
  rw [hlen]
  simp only [hb]
end Go.Proofs.YtagfbnfbiadpfaaGreat
