/-
  walk: the ways up and down, and the first threshold on a way that does.
-/
import Derived.Test.YtagfbnfbiadpfaaGreatHist7
import Derived.Test.YtagfbnfbiadpfaaGreatHist11
namespace Go.Proofs.YtagfbnfbiadpfaaGreat
open Go.RowKit Go.Shelf
set_option linter.unusedVariables false
set_option linter.unusedSimpArgs false
attribute [local go_sem] Oper.semAt_some

def upV (fr : Int) (k : Nat) : List Int := upto (fun i => fr + (i : Int)) k
def dnV (fr : Int) (k : Nat) : List Int := upto (fun i => fr - (i : Int)) k
theorem up_any (fr to : Int) (w : World) : Calls Tryz.prog 99 #[.int .i64 fr, .int .i64 to] w fun e w' => e = .returned (.func (.func 113) #[] #[.pointer (some ⟨w.heap.size, 0, none⟩), .pointer (some ⟨w.heap.size + 1, 0, none⟩)]) ∧ w' = (w.alloc (.cells #[.int .i64 fr] 3)).alloc (.cells #[.int .i64 to] 3) := by
  go_enter Tryz.func99, Tryz.ntmps99
  go_wp2
  go_ret
  exact ⟨rfl, rfl⟩
theorem down_any' (fr to : Int) (w : World) : Calls Tryz.prog 101 #[.int .i64 fr, .int .i64 to] w fun e w' => e = .returned (.func (.func 114) #[] #[.pointer (some ⟨w.heap.size, 0, none⟩), .pointer (some ⟨w.heap.size + 1, 0, none⟩)]) ∧ w' = (w.alloc (.cells #[.int .i64 fr] 3)).alloc (.cells #[.int .i64 to] 3) := by
  go_enter Tryz.func101, Tryz.ntmps101
  go_wp2
  go_ret
  exact ⟨rfl, rfl⟩

set_option maxRecDepth 100000 in
set_option maxHeartbeats 2000000 in
theorem up1_in (n : Nat) (hn : 1 ≤ n) (l Bf Bt n₀ : Nat) (fr to : Int) (N : Nat) (hN : N = (to + 1 - fr).toNat) (r1 : -1000 ≤ fr) (r2 : fr ≤ 1000) (r3 : -1000 ≤ to) (r4 : to ≤ 1000) (hBf : Bf < n₀) (hBt : Bt < n₀) (J Jx : List Int → World → Prop)
    (hY : ∀ pre x W, J pre W → pre.length < N → YieldAt Fence.wide (n - 1) Tryz.prog l #[.int .i64 x] W fun e W' =>
      (e = .returned (.bool true) ∧ J (pre ++ [x]) W' ∧ Below n₀ W W') ∨ (e = .returned (.bool false) ∧ Jx (pre ++ [x]) W'))
    (W : World) (hf : W.cell? ⟨Bf, 0, none⟩ = some (.int .i64 fr)) (ht : W.cell? ⟨Bt, 0, none⟩ = some (.int .i64 to)) (h0 : J [] W) :
    CallsIn Fence.wide n Tryz.prog 113 #[.func (.yield l) #[] #[], .pointer (some ⟨Bf, 0, none⟩), .pointer (some ⟨Bt, 0, none⟩)] W fun e W' => (∃ v, e = .returned v) ∧
      ((∃ ys, ys = upV fr N ∧ J ys W') ∨ (∃ pre, (∃ k, k ≤ N ∧ pre = upV fr k) ∧ Jx pre W')) := by
  refine callsIn_of_wp Tryz.func113 rfl trivial ?_ rfl
  simp only [Tryz.ntmps113, List.size_toArray, List.length_cons, List.length_nil, Nat.reduceAdd, Nat.reduceSub, Array.replicate_succ, Array.replicate_zero, List.push_toArray, List.append_toArray, List.nil_append, List.cons_append]
  gi_wp2
  gi_loopw [4] (fun t wr => ∃ k : Nat, k ≤ N ∧ t = .int .i64 (fr + (k : Int)) ∧ J (upV fr k) wr ∧ Below n₀ W wr) (fun t _ => (to + 1 - intOf t).toNat)
  case atStart => exact ⟨0, Nat.zero_le _, by simp, h0, Below.refl _ _⟩
  case round =>
    obtain ⟨k, hk, rfl, hJs, hK⟩ := hrel
    have ht1 : wr.cell? ⟨Bt, 0, none⟩ = some (.int .i64 to) := (hK.cell (p := ⟨Bt, 0, none⟩) hBt).trans ht
    have HK := Lib.hid hK
    clear hK
    by_cases hlt : k < N
    · obtain ⟨fn, tmps, assign, body, hy, hR⟩ := hY _ (fr + (k : Int)) wr hJs (by rw [upV, upto_length]; omega)
      have i1 : fr + (k : Int) ≤ to := by omega
      have HN := Lib.hid hN
      clear hN
      gi_wp2
      refine hR.mono ?_
      rintro e W3 (⟨rfl, hJ3, hk3⟩ | ⟨rfl, hJx3⟩)
      · have HK3 := Lib.hid (HK.out.trans hk3)
        have HJ3 := Lib.hid hJ3
        clear hk3 hJ3 hy
        gi_wp2
        go_roundw
        case rel => exact ⟨k + 1, by omega, by go_num, by rw [upV, upto_succ]; exact HJ3.out, HK3.out⟩
        case measure => simp [intOf]; omega
      · gi_wp2
        go_end0
        exact ⟨⟨_, rfl⟩, .inr ⟨_, ⟨k + 1, by omega, (upto_succ _ _).symm⟩, hJx3⟩⟩
    · obtain rfl : k = N := by omega
      have i1 : to < fr + (k : Int) := by omega
      have HN := Lib.hid hN
      clear hN
      gi_wp2
      refine ⟨(fun f h => by cases h), ?_⟩
      gi_wp2
      go_end0
      exact ⟨⟨_, rfl⟩, .inl ⟨_, rfl, hJs⟩⟩
set_option maxRecDepth 100000 in
set_option maxHeartbeats 2000000 in
theorem down1_in (n : Nat) (hn : 1 ≤ n) (l Bf Bt n₀ : Nat) (fr to : Int) (N : Nat) (hN : N = (fr + 1 - to).toNat) (r1 : -1000 ≤ fr) (r2 : fr ≤ 1000) (r3 : -1000 ≤ to) (r4 : to ≤ 1000) (hBf : Bf < n₀) (hBt : Bt < n₀) (J Jx : List Int → World → Prop)
    (hY : ∀ pre x W, J pre W → pre.length < N → YieldAt Fence.wide (n - 1) Tryz.prog l #[.int .i64 x] W fun e W' =>
      (e = .returned (.bool true) ∧ J (pre ++ [x]) W' ∧ Below n₀ W W') ∨ (e = .returned (.bool false) ∧ Jx (pre ++ [x]) W'))
    (W : World) (hf : W.cell? ⟨Bf, 0, none⟩ = some (.int .i64 fr)) (ht : W.cell? ⟨Bt, 0, none⟩ = some (.int .i64 to)) (h0 : J [] W) :
    CallsIn Fence.wide n Tryz.prog 114 #[.func (.yield l) #[] #[], .pointer (some ⟨Bf, 0, none⟩), .pointer (some ⟨Bt, 0, none⟩)] W fun e W' => (∃ v, e = .returned v) ∧
      ((∃ ys, ys = dnV fr N ∧ J ys W') ∨ (∃ pre, (∃ k, k ≤ N ∧ pre = dnV fr k) ∧ Jx pre W')) := by
  refine callsIn_of_wp Tryz.func114 rfl trivial ?_ rfl
  simp only [Tryz.ntmps114, List.size_toArray, List.length_cons, List.length_nil, Nat.reduceAdd, Nat.reduceSub, Array.replicate_succ, Array.replicate_zero, List.push_toArray, List.append_toArray, List.nil_append, List.cons_append]
  gi_wp2
  gi_loopw [4] (fun t wr => ∃ k : Nat, k ≤ N ∧ t = .int .i64 (fr - (k : Int)) ∧ J (dnV fr k) wr ∧ Below n₀ W wr) (fun t _ => (intOf t + 1 - to).toNat)
  case atStart => exact ⟨0, Nat.zero_le _, by simp, h0, Below.refl _ _⟩
  case round =>
    obtain ⟨k, hk, rfl, hJs, hK⟩ := hrel
    have ht1 : wr.cell? ⟨Bt, 0, none⟩ = some (.int .i64 to) := (hK.cell (p := ⟨Bt, 0, none⟩) hBt).trans ht
    have HK := Lib.hid hK
    clear hK
    by_cases hlt : k < N
    · obtain ⟨fn, tmps, assign, body, hy, hR⟩ := hY _ (fr - (k : Int)) wr hJs (by rw [dnV, upto_length]; omega)
      have i1 : to ≤ fr - (k : Int) := by omega
      have HN := Lib.hid hN
      clear hN
      gi_wp2
      refine hR.mono ?_
      rintro e W3 (⟨rfl, hJ3, hk3⟩ | ⟨rfl, hJx3⟩)
      · have HK3 := Lib.hid (HK.out.trans hk3)
        have HJ3 := Lib.hid hJ3
        clear hk3 hJ3 hy
        gi_wp2
        go_roundw
        case rel => exact ⟨k + 1, by omega, by go_num, by rw [dnV, upto_succ]; exact HJ3.out, HK3.out⟩
        case measure => simp [intOf]; omega
      · gi_wp2
        go_end0
        exact ⟨⟨_, rfl⟩, .inr ⟨_, ⟨k + 1, by omega, (upto_succ _ _).symm⟩, hJx3⟩⟩
    · obtain rfl : k = N := by omega
      have i1 : fr - (k : Int) < to := by omega
      have HN := Lib.hid hN
      clear hN
      gi_wp2
      refine ⟨(fun f h => by cases h), ?_⟩
      gi_wp2
      go_end0
      exact ⟨⟨_, rfl⟩, .inl ⟨_, rfl, hJs⟩⟩

/-- A way, as a sequence. -/
theorem up_stops (n : Nat) (hn : 1 ≤ n) (Bf Bt n₀ : Nat) (fr to : Int) (r1 : -1000 ≤ fr) (r2 : fr ≤ 1000) (r3 : -1000 ≤ to) (r4 : to ≤ 1000) (hBf : Bf < n₀) (hBt : Bt < n₀) (w : World) (hn₀ : n₀ ≤ w.heap.size)
    (hf : w.cell? ⟨Bf, 0, none⟩ = some (.int .i64 fr)) (ht : w.cell? ⟨Bt, 0, none⟩ = some (.int .i64 to)) :
    SeqStopsK Fence.wide n Tryz.prog 113 #[.pointer (some ⟨Bf, 0, none⟩), .pointer (some ⟨Bt, 0, none⟩)] (fun x : Int => #[.int .i64 x]) (Below n₀) (fun ys => ys = upV fr (to + 1 - fr).toNat) (fun pre => ∃ k, k ≤ (to + 1 - fr).toNat ∧ pre = upV fr k) (to + 1 - fr).toNat w := fun l J Jx W hW _ _ hY h0 =>
  up1_in n hn l Bf Bt n₀ fr to _ rfl r1 r2 r3 r4 hBf hBt J Jx hY W ((hW.cell (p := ⟨Bf, 0, none⟩) (show Bf < w.heap.size by omega)).trans hf) ((hW.cell (p := ⟨Bt, 0, none⟩) (show Bt < w.heap.size by omega)).trans ht) h0
theorem down_stops (n : Nat) (hn : 1 ≤ n) (Bf Bt n₀ : Nat) (fr to : Int) (r1 : -1000 ≤ fr) (r2 : fr ≤ 1000) (r3 : -1000 ≤ to) (r4 : to ≤ 1000) (hBf : Bf < n₀) (hBt : Bt < n₀) (w : World) (hn₀ : n₀ ≤ w.heap.size)
    (hf : w.cell? ⟨Bf, 0, none⟩ = some (.int .i64 fr)) (ht : w.cell? ⟨Bt, 0, none⟩ = some (.int .i64 to)) :
    SeqStopsK Fence.wide n Tryz.prog 114 #[.pointer (some ⟨Bf, 0, none⟩), .pointer (some ⟨Bt, 0, none⟩)] (fun x : Int => #[.int .i64 x]) (Below n₀) (fun ys => ys = dnV fr (fr + 1 - to).toNat) (fun pre => ∃ k, k ≤ (fr + 1 - to).toNat ∧ pre = dnV fr k) (fr + 1 - to).toNat w := fun l J Jx W hW _ _ hY h0 =>
  down1_in n hn l Bf Bt n₀ fr to _ rfl r1 r2 r3 r4 hBf hBt J Jx hY W ((hW.cell (p := ⟨Bf, 0, none⟩) (show Bf < w.heap.size by omega)).trans hf) ((hW.cell (p := ⟨Bt, 0, none⟩) (show Bt < w.heap.size by omega)).trans ht) h0

/-! ### first -/
/-- The first of a row that does; else another one. -/
def firstOf (l : List Int) (q : Int → Bool) (other : Int) : Int := (l.find? q).getD other
theorem firstOf_none {l : List Int} {q : Int → Bool} {other : Int} (h : ∀ p ∈ l, q p = false) : firstOf l q other = other := by
  unfold firstOf
  rw [List.find?_eq_none.2 (fun x hx => by simp [h x hx])]
  rfl
theorem firstOf_some {l : List Int} {q : Int → Bool} {other : Int} {f : Nat → List Int} {N k : Nat} (hl : l = f N) (hk : k ≤ N) (hf : ∀ a b, a ≤ b → f a <+: f b) {pre : List Int} {x : Int} (he : f k = pre ++ [x]) (hx : q x = true) (h : ∀ p ∈ pre, q p = false) : firstOf l q other = x := by
  obtain ⟨r, hr⟩ := hf k N hk
  rw [hl, ← hr, he]
  unfold firstOf
  rw [List.append_assoc, List.find?_append, List.find?_eq_none.2 (fun y hy => by simp [h y hy])]
  simp [hx]
theorem upto_pre {α : Type} (f : Nat → α) (a b : Nat) (h : a ≤ b) : upto f a <+: upto f b := by
  unfold upto
  refine List.IsPrefix.map f ?_
  refine ⟨(List.range' a (b - a)), ?_⟩
  have h2 := List.range'_append_1 (s := 0) (m := a) (n := b - a)
  rw [Nat.zero_add] at h2
  rw [List.range_eq_range', List.range_eq_range', h2]
  congr 1
  omega
theorem keeps_of_below {W W' : World} (h : Below W.heap.size W W') : KeepsOthers W W' := ⟨h.size, fun k o hk _ => (h.block k (Array.getElem?_eq_some_iff.1 hk).1).trans hk⟩
set_option maxRecDepth 100000 in
set_option maxHeartbeats 2000000 in
theorem wfirst_in (gf : Nat) (lb : Array Value) (f : Nat → List Int) (N : Nat) (hlen : ∀ k, (f k).length = k) (hpre : ∀ a b, a ≤ b → f a <+: f b) (fq c1 c2 : Nat) (q : Int → Bool) (other : Int)
    (egf : ∀ args w, (callFunc gf args).run Tryz.prog w = .ok (.enter gf args) w) (efq : ∀ args w, (callFunc fq args).run Tryz.prog w = .ok (.enter fq args) w) (w : World)
    (hseq : ∀ w0, Below w.heap.size w w0 → SeqStopsK Fence.wide 5 Tryz.prog gf lb (fun x : Int => #[.int .i64 x]) (Below w.heap.size) (fun ys => ys = f N) (fun pre => ∃ k, k ≤ N ∧ pre = f k) N w0)
    (hq : ∀ (x : Int) (W : World), Below w.heap.size w W → Calls Tryz.prog fq #[.int .i64 x, .pointer (some ⟨c1, 0, none⟩), .pointer (some ⟨c2, 0, none⟩)] W fun e W' => e = .returned (.bool (q x)) ∧ Below W.heap.size W W') :
    CallsIn Fence.wide 6 Tryz.prog 98 #[.func (.func gf) #[] lb, .func (.func fq) #[] #[.pointer (some ⟨c1, 0, none⟩), .pointer (some ⟨c2, 0, none⟩)], .int .i64 other] w fun e W' => e = .returned (.int .i64 (firstOf (f N) q other)) ∧ Below w.heap.size w W' := by
  have HQ := Lib.hid hq
  have HS := Lib.hid hseq
  have HP := Lib.hid hpre
  have HL := Lib.hid hlen
  clear hq hseq hpre hlen
  refine callsIn_of_wp_marks Tryz.func98 rfl trivial ?_ rfl
  simp only [Tryz.ntmps98, List.size_toArray, List.length_cons, List.length_nil, Nat.reduceAdd, Nat.reduceSub, Array.replicate_succ, Array.replicate_zero, List.push_toArray, List.append_toArray, List.nil_append, List.cons_append]
  gi_wp2
  obtain ⟨H, hH⟩ : ∃ H, H = w.heap.size := ⟨_, rfl⟩
  have bA : IsObj ((w.alloc (.cells #[.func (.func fq) #[] #[.pointer (some ⟨c1, 0, none⟩), .pointer (some ⟨c2, 0, none⟩)]] 46)).alloc (.cells #[.int .i64 0] 3)) H 46 [.func (.func fq) #[] #[.pointer (some ⟨c1, 0, none⟩), .pointer (some ⟨c2, 0, none⟩)]] := by
    rw [hH]; exact (IsObj.new w 46 [.func (.func fq) #[] #[.pointer (some ⟨c1, 0, none⟩), .pointer (some ⟨c2, 0, none⟩)]]).alloc _
  have bR : IsObj ((w.alloc (.cells #[.func (.func fq) #[] #[.pointer (some ⟨c1, 0, none⟩), .pointer (some ⟨c2, 0, none⟩)]] 46)).alloc (.cells #[.int .i64 0] 3)) (H + 1) 3 [.int .i64 0] := by
    have := IsObj.new (w.alloc (.cells #[.func (.func fq) #[] #[.pointer (some ⟨c1, 0, none⟩), .pointer (some ⟨c2, 0, none⟩)]] 46)) 3 [.int .i64 0]
    rw [World.size_alloc] at this
    rw [hH]; exact this
  have hB0 : Below H w ((w.alloc (.cells #[.func (.func fq) #[] #[.pointer (some ⟨c1, 0, none⟩), .pointer (some ⟨c2, 0, none⟩)]] 46)).alloc (.cells #[.int .i64 0] 3)) := by
    rw [hH]; exact ((Below.refl _ w).alloc (Nat.le_refl _) _).alloc (by simp) _
  have hsz : ((w.alloc (.cells #[.func (.func fq) #[] #[.pointer (some ⟨c1, 0, none⟩), .pointer (some ⟨c2, 0, none⟩)]] 46)).alloc (.cells #[.int .i64 0] 3)).heap.size = H + 2 := by
    simp [hH]
  rw [← hH] at HS HQ ⊢
  have hn1 : H ≤ w.heap.size := by omega
  have hn2 : w.heap.size ≤ H := by omega
  clear hH
  generalize ((w.alloc (.cells #[.func (.func fq) #[] #[.pointer (some ⟨c1, 0, none⟩), .pointer (some ⟨c2, 0, none⟩)]] 46)).alloc (.cells #[.int .i64 0] 3)) = w3 at *
  refine wpIn_rangeFunc_ownF rfl (by omega) (gf := gf) (lb := lb) rfl trivial egf (HS.out w3 hB0) (fun h k => h.trans k) (belowK_b (by omega)) (Below.refl _ _) (fun _ => rfl)
    (fun pre W => ((∀ p ∈ pre, q p = false) ∧ IsObj W H 46 [.func (.func fq) #[] #[.pointer (some ⟨c1, 0, none⟩), .pointer (some ⟨c2, 0, none⟩)]] ∧ IsObj W (H + 1) 3 [.int .i64 0]) ∧ Below H w W)
    (fun cc pre W => (cc = .ret ∧ ∃ pre' x, pre = pre' ++ [x] ∧ q x = true ∧ (∀ p ∈ pre', q p = false) ∧ IsObj W (H + 1) 3 [.int .i64 x]) ∧ Below H w W)
    (OwnFrom.and (Own.from (fun s A B row hs hg hr => ⟨hs.1, isObj_kept hs.2.1 hg hr, isObj_kept hs.2.2 hg hr⟩) _) (ownFrom_below (by omega) (by omega)))
    (fun cc => OwnFrom.and (Own.from (fun s A B row hs hg hr => by obtain ⟨e, p, x, e1, e2, e3, e4⟩ := hs; exact ⟨e, p, x, e1, e2, e3, isObj_kept e4 hg hr⟩) _) (ownFrom_below (by omega) (by omega)))
    ⟨⟨by simp, bA, bR⟩, hB0⟩
    (fun x => { tmps := #[.func (.func gf) #[] lb, .func (.func fq) #[] #[.pointer (some ⟨c1, 0, none⟩), .pointer (some ⟨c2, 0, none⟩)], .int .i64 other, undef, .pointer (some ⟨H, 0, none⟩), undef, .pointer (some ⟨H + 1, 0, none⟩), .int .i64 x, .func (.func gf) #[] lb, .int .i64 x, undef, undef, undef, undef, undef], defers := [] }) ?assign ?body ?done ?stop
  case assign =>
    intro l x W K hK
    gi_wp2
    exact hK
  case body =>
    rintro l pre x W ⟨⟨hp, hA, hR⟩, hB⟩ _
    have cA : W.cell? ⟨H, 0, none⟩ = some (.func (.func fq) #[] #[.pointer (some ⟨c1, 0, none⟩), .pointer (some ⟨c2, 0, none⟩)]) := hA.cell 0
    have CQ := Lib.hid (HQ.out x W hB)
    have HA := Lib.hid hA
    have HR := Lib.hid hR
    have HB := Lib.hid hB
    have HPp := Lib.hid hp
    clear hA hR hB hp
    cases hx : q x with
    | true =>
      rw [hx] at CQ
      have HX := Lib.hid hx
      clear hx
      gi_wp2
      refine ⟨trivial, ?_⟩
      refine (CallsIn.inRound l (callsIn_wide.2 CQ.out)).mono ?_
      rintro e W4 ⟨rfl, hb4⟩
      have hs := HA.out.lt
      have hs2 := HR.out.lt
      have HR4 := Lib.hid (IsObj.below HR.out hb4 hs2)
      have HB4 := Lib.hid (HB.out.trans (hb4.mono (by omega)))
      have HK4 := Lib.hid (keeps_of_below hb4)
      have fR := HR4.out.free 0
      have cR : W4.cell? ⟨H + 1, 0, none⟩ = some (.int .i64 0) := HR4.out.cell 0
      clear hb4 hs hs2
      gi_wp2
      refine ⟨HK4.out.trans (KeepsOthers.setCell _ _ _), ⟨rfl, pre, x, rfl, HX.out, HPp.out, ?_⟩, HB4.out.setCell (p := ⟨H + 1, 0, none⟩) (by simp) _⟩
      exact HR4.out.set 0 _
    | false =>
      rw [hx] at CQ
      have HX := Lib.hid hx
      clear hx
      gi_wp2
      refine ⟨trivial, ?_⟩
      refine (CallsIn.inRound l (callsIn_wide.2 CQ.out)).mono ?_
      rintro e W4 ⟨rfl, hb4⟩
      have hs := HA.out.lt
      have hs2 := HR.out.lt
      have HA4 := Lib.hid (IsObj.below HA.out hb4 hs)
      have HR4 := Lib.hid (IsObj.below HR.out hb4 hs2)
      have HB4 := Lib.hid (HB.out.trans (hb4.mono (by omega)))
      have HK4 := Lib.hid (keeps_of_below hb4)
      have HKp := Lib.hid (hb4.mono (show H ≤ W.heap.size by omega))
      clear hb4 hs hs2
      gi_wp2
      refine ⟨HK4.out, HKp.out, ⟨?_, HA4.out, HR4.out⟩, HB4.out⟩
      have hnext : ∀ p ∈ pre ++ [x], q p = false := by
        intro p hpm
        rcases List.mem_append.1 hpm with h1 | h1
        · exact HPp.out p h1
        · rw [List.mem_singleton.1 h1]; exact HX.out
      first
        | exact hnext
        | simpa using hnext
  case done =>
    rintro D ys W hD rfl ⟨⟨hp, _, hR⟩, hB⟩ hK
    have cR : W.cell? ⟨H + 1, 0, none⟩ = some (.int .i64 0) := hR.cell 0
    have fR := hR.free 0
    have hF := firstOf_none (other := other) hp
    have HR := Lib.hid hR
    clear hR hp
    gi_wp2
    have hK' := (KeepsOthers.setCell W ⟨H + 1, 0, none⟩ (.int .i64 other)).same D _ hK rfl
    refine ⟨by simp, .inl ⟨_, _, rfl, run_takeDeferred hK', ?_⟩⟩
    have h1 := isObj_kept (HR.out.set 0 (.int .i64 other)) (grownBy_putObj' _ D (.deferred none)) (fun r e => by cases e; exact ⟨_, hK', rfl⟩)
    have k1 := h1.cell 0
    refine ⟨.int .i64 other, ?_, by rw [hF], ((hB.setCell (p := ⟨H + 1, 0, none⟩) (by simp) _).trans (belowK_b (w := w3) (by omega) _ D _ _ (by omega) hK' rfl rfl)).mono hn2⟩
    simp [results, Tryz.f98, go_sem, k1]
  case stop =>
    rintro D cc pre W hD ⟨k, hk, rfl⟩ ⟨⟨rfl, pre', x, e1, e2, e3, hR⟩, hB⟩ hK
    have hF := firstOf_some (other := other) rfl hk HP.out e1 e2 e3
    gi_wp2
    refine ⟨by simp, .inl ⟨_, _, rfl, run_takeDeferred hK, ?_⟩⟩
    have h1 := isObj_kept hR (grownBy_putObj' _ D (.deferred none)) (fun r e => by cases e; exact ⟨_, hK, rfl⟩)
    have k1 := h1.cell 0
    refine ⟨.int .i64 x, ?_, by rw [hF], (hB.trans (belowK_b (w := w3) (by omega) W D _ _ (by omega) hK rfl rfl)).mono hn2⟩
    simp [results, Tryz.f98, go_sem, k1]
end Go.Proofs.YtagfbnfbiadpfaaGreat
