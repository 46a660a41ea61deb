/-
  Layer 27 (frame): Encode.
-/
import Derived.Test.YtobcjbpgeohbgaaGreatDoorFr2
namespace Go.Proofs.YtobcjbpgeohbgaaGreatDoor
open Go.RowKit
set_option linter.unusedVariables false
set_option linter.unusedSimpArgs false

/-- The body of a frame, whether it may be, and whether the frame is that body's and no more. -/
def bodyS (x : Fm) : ByteArray := if x.k = 1 then putS x.q else if x.k = 2 then putR x.a else putP x.p
def bodyE (x : Fm) : Int := if x.k = 1 then errOf x.q else if x.k = 2 then errR x.a else errP x.p
def pureF (x : Fm) : Fm := if x.k = 1 then ⟨1, x.q, a0, p0⟩ else if x.k = 2 then ⟨2, q0, x.a, p0⟩ else ⟨3, q0, a0, x.p⟩
def kindOk (x : Fm) : Bool := decide (1 ≤ x.k ∧ x.k ≤ 3)
/-- A frame's bytes, or what is wrong. -/
def encE (x : Fm) : Int := if kindOk x = false then 5 else if bodyE x ≠ 0 ∨ fmEq (pureF x) x = false then 1 else hpE x.k (bodyS x)
def encS (x : Fm) : ByteArray := if kindOk x = false then ⟨#[]⟩ else if bodyE x ≠ 0 ∨ fmEq (pureF x) x = false then ⟨#[]⟩ else hpS x.k (bodyS x)
theorem putS_sz (x : Rq) : (putS x).size ≤ 200 := by
  unfold putS
  split
  · rename_i h; rw [(get_put h).2]; omega
  · decide
theorem putR_sz (x : Rp) : (putR x).size ≤ 200 := by
  unfold putR
  split
  · rename_i h; rw [(get_putR h).2]; omega
  · decide
theorem putP_sz (x : Ps) : (putP x).size ≤ 200 := by
  unfold putP
  split
  · rename_i h; rw [(get_putP h).2]; omega
  · decide
theorem bodyS_sz (x : Fm) : (bodyS x).size ≤ 200 := by
  unfold bodyS
  split
  · exact putS_sz _
  · split
    · exact putR_sz _
    · exact putP_sz _
set_option maxRecDepth 100000 in
set_option maxHeartbeats 2000000 in
theorem enc_q (x : Fm) (hk : x.k = 1) (w : World) (hN : NmAt w) (hW : WdAt w) : Calls Tryz.prog 8 #[fmV x] w fun e w' => e = .returned (.tuple #[.string (encS x), .int .i64 (encE x)]) ∧ Below w.heap.size w w' := by
  have hp : partV x = .iface 68 (rqV x.q) := by unfold partV; rw [hk]; rfl
  have hm : ∀ w, (method 284 68 (rqV x.q) "lockkeeper/frame.body").run Tryz.prog w = .ok (124, rqV x.q) w := fun _ => by kernel_rfl
  have hS : bodyS x = putS x.q := by unfold bodyS; rw [hk]; rfl
  have hE : bodyE x = errOf x.q := by unfold bodyE; rw [hk]; rfl
  have hF : pureF x = ⟨1, x.q, a0, p0⟩ := by unfold pureF; rw [hk]; rfl
  have hK : kindOk x = true := by unfold kindOk; rw [hk]; rfl
  have KB : ∀ w, NmAt w → WdAt w → Calls Tryz.prog 124 #[rqV x.q] w fun e w' => e = .returned (.tuple #[.string (bodyS x), .int .i64 (bodyE x)]) ∧ Below w.heap.size w w' := fun w h1 h2 => by
    rw [hS, hE]; exact body_q _ w
  have KW : ∀ w, Calls Tryz.prog 21 #[.iface 68 (rqV x.q)] w fun e w' => e = .returned (.agg (fmCells (pureF x)).toArray) ∧ Below w.heap.size w w' := fun w => by
    rw [hF]; exact whole_q _ w
  have KO : ∀ w, Calls Tryz.prog 27 #[fmV x] w fun e w' => e = .returned (.iface 68 (rqV x.q)) ∧ Below w.heap.size w w' := fun w => by
    have h := of_any x w
    rw [hp] at h
    exact h
  have KP := fun w => hput_any 1 (bodyS x) w (by have := bodyS_sz x; omega)
  obtain ⟨B, hBB⟩ : ∃ B, B = w.heap.size := ⟨_, rfl⟩
  have HB0 := Lib.hid hBB
  have O1 := Lib.hid (show IsObj (w.alloc (.cells (fmCells x).toArray 32)) B 32 (fmCells x) by rw [hBB]; exact IsObj.new w _ (fmCells x))
  have B1 := Lib.hid (show Below w.heap.size w (w.alloc (.cells (fmCells x).toArray 32)) from (Below.refl _ _).alloc (Nat.le_refl _) _)
  have HN := Lib.hid (hN.same B1.out)
  have HW := Lib.hid (hW.same B1.out)
  have HS := Lib.hid (show encS x = (if bodyE x ≠ 0 ∨ fmEq (pureF x) x = false then ⟨#[]⟩ else hpS 1 (bodyS x)) ∧ encE x = (if bodyE x ≠ 0 ∨ fmEq (pureF x) x = false then 1 else hpE 1 (bodyS x)) by
    unfold encS encE; rw [hK, hk]; exact ⟨rfl, rfl⟩)
  have HK0 := Lib.hid hk
  clear hBB hN hW hp hS hE hF hK hk
  go_enter Tryz.func8, Tryz.ntmps8
  go_upto_region 1 with (fail)
  rw [← HB0.out]
  generalize w.alloc (.cells (fmCells x).toArray 32) = w1 at *
  have RG := Lib.hid (IsObj.range O1.out)
  go_upto_region 4 with (first | (refine wpList_load_mid (by rfl) 32 _ (by rfl) B 0 (by rfl) (fmCells x) _ (by exact RG.out) Tryz.underlying32 rfl (by kernel_rfl) ?_) | (go_at_call 27; refine (KO _).mono ?_; rintro e w2 ⟨rfl, b2⟩))
  have HN2 := Lib.hid (HN.out.same b2)
  have HW2 := Lib.hid (HW.out.same b2)
  go_upto_region 5 with (go_at_call 124; refine (KB _ HN2.out HW2.out).mono ?_; rintro e w3 ⟨rfl, b3⟩)
  have O3 := Lib.hid (IsObj.below (IsObj.below O1.out b2 O1.out.lt) b3 (Nat.lt_of_lt_of_le O1.out.lt b2.size))
  have B3 := Lib.hid (B1.out.trans ((b2.trans (b3.mono b2.size)).mono B1.out.size))
  clear b2 b3 O1 B1 HN HW HN2 HW2 RG hm KB KO
  by_cases hE0 : bodyE x = 0
  · skip
    have hq : ∀ w, (binOp .neq 32 (fmV (pureF x)) (fmV x)).run Tryz.prog w = .ok (.bool (!fmEq (pureF x) x)) w := fun w => fm_neq _ _ w
    generalize hr : fmEq (pureF x) x = r at *
    refine wp_region_held_drew (S := fun W => Below w3.heap.size w3 W) (by kernel_rfl) ?_ (fun hHeld => ?_)
    · (try dsimp only); first | assumption | exact (Below.refl _ _).drew
    refine wpAnyH_take (i := 0) (oi := ?oi1) (v := ?v1) ?hi1 (by kernel_rfl) (by kernel_rfl) (by kernel_rfl) ?hQ1 ?hy1 (by assumption) ?_
    case hi1 => (simp only [List.getElem?_toArray, List.getElem?_cons_succ, List.getElem?_cons_zero]; rfl)
    case hQ1 => exact fun _ _ _ h => h
    case hy1 => (refine Or.inl ⟨by rfl, ?_⟩; intro w hSw; (try dsimp only at hSw); go_simp; try with_reducible rfl)
    try simp only [Act.put, List.setIfInBounds_toArray, List.set_cons_zero, List.set_cons_succ]
    refine wpAnyH_take (i := 1) (oi := ?oi2) (v := ?v2) ?hi2 (by kernel_rfl) (by kernel_rfl) (by kernel_rfl) ?hQ2 ?hy2 (by assumption) ?_
    case hi2 => (simp only [List.getElem?_toArray, List.getElem?_cons_succ, List.getElem?_cons_zero]; rfl)
    case hQ2 => exact fun _ _ _ h => h
    case hy2 => (refine Or.inl ⟨by rfl, ?_⟩; intro w hSw; (try dsimp only at hSw); go_simp; try with_reducible rfl)
    try simp only [Act.put, List.setIfInBounds_toArray, List.set_cons_zero, List.set_cons_succ]
    refine wpAnyH_take (i := 2) (oi := ?oi3) (v := ?v3) ?hi3 (by kernel_rfl) (by kernel_rfl) (by kernel_rfl) ?hQ3 ?hy3 (by assumption) ?_
    case hi3 => (simp only [List.getElem?_toArray, List.getElem?_cons_succ, List.getElem?_cons_zero]; rfl)
    case hQ3 => exact fun _ _ _ h => h
    case hy3 => (refine Or.inl ⟨by rfl, ?_⟩; intro w hSw; (try dsimp only at hSw); go_simp; try with_reducible rfl)
    try simp only [Act.put, List.setIfInBounds_toArray, List.set_cons_zero, List.set_cons_succ]
    refine wpAnyH_take (i := 3) (oi := ?oi4) (v := ?v4) ?hi4 (by kernel_rfl) (by kernel_rfl) (by kernel_rfl) ?hQ4 ?hy4 (by assumption) ?_
    case hi4 => (simp only [List.getElem?_toArray, List.getElem?_cons_succ, List.getElem?_cons_zero]; rfl)
    case hQ4 => exact fun _ _ _ h => h
    case hy4 => (refine Or.inl ⟨by rfl, ?_⟩; intro w hSw; (try dsimp only at hSw); go_simp; try with_reducible rfl)
    try simp only [Act.put, List.setIfInBounds_toArray, List.set_cons_zero, List.set_cons_succ]
    refine wpAnyH_take (i := 5) (oi := ?oi5) (v := .agg (fmCells x).toArray) ?hi5 (by kernel_rfl) (by kernel_rfl) (by kernel_rfl) ?hQ5 ?hy5 (by assumption) ?_
    case hi5 => (simp only [List.getElem?_toArray, List.getElem?_cons_succ, List.getElem?_cons_zero]; rfl)
    case hQ5 => exact fun _ _ _ h => h
    case hy5 => exact yieldsIf_load_mid (by rfl) 32 _ (by rfl) B 0 (by rfl) (fmCells x) _ (fun w hw => IsObj.range (IsObj.below O3.out hw O3.out.lt)) Tryz.underlying32 rfl (by kernel_rfl)
    try simp only [Act.put, List.setIfInBounds_toArray, List.set_cons_zero, List.set_cons_succ]
    refine wpAnyH_ready (rs := [4]) (by kernel_rfl) (by simp) ?_
    refine AllReadyH.cons (o := ?oi604) ?ho604 (fun K hK => ?_) AllReadyH.nil
    case ho604 => (simp only [List.getElem?_toArray, List.getElem?_cons_succ, List.getElem?_cons_zero]; rfl)
    go_simp
    go_at_call 21; (with_reducible refine (KW _).mono ?_); rintro e wA ⟨rfl, hbA⟩; have hkA := below_go (by assumption) hbA
    refine hK.out _ _ ?_ (fun hHeld => ?_)
    · (try dsimp only); first | assumption | exact (Below.refl _ _).drew
    clear hK K
    try simp only [Act.put, List.setIfInBounds_toArray, List.set_cons_zero, List.set_cons_succ]
    refine wpAnyH_take (i := 6) (oi := ?oi7) (v := ?v7) ?hi7 (by kernel_rfl) (by kernel_rfl) (by kernel_rfl) ?hQ7 ?hy7 (by assumption) ?_
    case hi7 => (simp only [List.getElem?_toArray, List.getElem?_cons_succ, List.getElem?_cons_zero]; rfl)
    case hQ7 => exact fun _ _ _ h => h
    case hy7 => (refine Or.inl ⟨by rfl, ?_⟩; intro w hSw; (try dsimp only at hSw); go_simp; try with_reducible rfl)
    try simp only [Act.put, List.setIfInBounds_toArray, List.set_cons_zero, List.set_cons_succ]
    refine wpAnyH_take (i := 7) (oi := ?oi8) (v := ?v8) ?hi8 (by kernel_rfl) (by kernel_rfl) (by kernel_rfl) ?hQ8 ?hy8 (by assumption) ?_
    case hi8 => (simp only [List.getElem?_toArray, List.getElem?_cons_succ, List.getElem?_cons_zero]; rfl)
    case hQ8 => exact fun _ _ _ h => h
    case hy8 => (refine Or.inl ⟨by rfl, ?_⟩; intro w hSw; (try dsimp only at hSw); go_simp; try with_reducible rfl)
    try simp only [Act.put, List.setIfInBounds_toArray, List.set_cons_zero, List.set_cons_succ]
    refine wpAnyH_done (by kernel_rfl) ?_ _
    have B4 := Lib.hid (B3.out.trans (hkA.mono B3.out.size))
    have k0 : wA.cell? ⟨B, 0, none⟩ = some (.int .i64 1) := by rw [IsObj.cell (IsObj.below O3.out hkA O3.out.lt) 0]; show some (Value.int .i64 x.k) = _; rw [HK0.out]
    clear B3 O3 hkA hq KW
    cases r with
    | false =>
      go_wp2
      go_returns
      rw [HS.out.1, HS.out.2, if_pos (by simp), if_pos (by simp)]
      exact ⟨rfl, B4.out⟩
    | true =>
      go_wp2_with (go_at_call 28; refine (KP _).mono ?_; rintro e w4 ⟨rfl, b4⟩)
      go_returns
      rw [HS.out.1, HS.out.2, if_neg (by rintro (h | h); exact h hE0; cases h), if_neg (by rintro (h | h); exact h hE0; cases h)]
      exact ⟨rfl, B4.out.trans (b4.mono B4.out.size)⟩
  · have hE1 : (bodyE x != 0) = true := by simpa using hE0
    have hE2 := Lib.hid hE0
    clear hE0
    generalize bodyE x = be at *
    ((first | (with_reducible refine region_ext2 (by kernel_rfl) (by kernel_rfl) ?_) | (refine region_ext (by kernel_rfl) (by kernel_rfl) ?_)); (repeat ((with_reducible refine wpQuiet_step (fun K hK => ?_)); go_simp; (first | ((refine hK _ ?_); clear hK K) | ((apply Exists.intro); (refine ⟨fun _ => ?_, hK _ ?_⟩); (first | (go_at_call 21; with_reducible exact ext_below (KW _))); clear hK K)))); refine wpQuiet_nil ?_; rintro _ ⟨uq, rfl⟩)
    have B4 := Lib.hid (below_ext uq B3.out B3.out.size)
    clear B3 O3 KW
    go_wp2
    go_returns
    rw [HS.out.1, HS.out.2, if_pos (.inl hE2.out), if_pos (.inl hE2.out)]
    exact ⟨rfl, B4.out⟩
set_option maxRecDepth 100000 in
set_option maxHeartbeats 2000000 in
theorem enc_a (x : Fm) (hk : x.k = 2) (w : World) (hN : NmAt w) (hW : WdAt w) : Calls Tryz.prog 8 #[fmV x] w fun e w' => e = .returned (.tuple #[.string (encS x), .int .i64 (encE x)]) ∧ Below w.heap.size w w' := by
  have hp : partV x = .iface 71 (rpV x.a) := by unfold partV; rw [hk]; rfl
  have hm : ∀ w, (method 284 71 (rpV x.a) "lockkeeper/frame.body").run Tryz.prog w = .ok (138, rpV x.a) w := fun _ => by kernel_rfl
  have hS : bodyS x = putR x.a := by unfold bodyS; rw [hk]; rfl
  have hE : bodyE x = errR x.a := by unfold bodyE; rw [hk]; rfl
  have hF : pureF x = ⟨2, q0, x.a, p0⟩ := by unfold pureF; rw [hk]; rfl
  have hK : kindOk x = true := by unfold kindOk; rw [hk]; rfl
  have KB : ∀ w, NmAt w → WdAt w → Calls Tryz.prog 138 #[rpV x.a] w fun e w' => e = .returned (.tuple #[.string (bodyS x), .int .i64 (bodyE x)]) ∧ Below w.heap.size w w' := fun w h1 h2 => by
    rw [hS, hE]; exact body_a _ w h1
  have KW : ∀ w, Calls Tryz.prog 21 #[.iface 71 (rpV x.a)] w fun e w' => e = .returned (.agg (fmCells (pureF x)).toArray) ∧ Below w.heap.size w w' := fun w => by
    rw [hF]; exact whole_a _ w
  have KO : ∀ w, Calls Tryz.prog 27 #[fmV x] w fun e w' => e = .returned (.iface 71 (rpV x.a)) ∧ Below w.heap.size w w' := fun w => by
    have h := of_any x w
    rw [hp] at h
    exact h
  have KP := fun w => hput_any 2 (bodyS x) w (by have := bodyS_sz x; omega)
  obtain ⟨B, hBB⟩ : ∃ B, B = w.heap.size := ⟨_, rfl⟩
  have HB0 := Lib.hid hBB
  have O1 := Lib.hid (show IsObj (w.alloc (.cells (fmCells x).toArray 32)) B 32 (fmCells x) by rw [hBB]; exact IsObj.new w _ (fmCells x))
  have B1 := Lib.hid (show Below w.heap.size w (w.alloc (.cells (fmCells x).toArray 32)) from (Below.refl _ _).alloc (Nat.le_refl _) _)
  have HN := Lib.hid (hN.same B1.out)
  have HW := Lib.hid (hW.same B1.out)
  have HS := Lib.hid (show encS x = (if bodyE x ≠ 0 ∨ fmEq (pureF x) x = false then ⟨#[]⟩ else hpS 2 (bodyS x)) ∧ encE x = (if bodyE x ≠ 0 ∨ fmEq (pureF x) x = false then 1 else hpE 2 (bodyS x)) by
    unfold encS encE; rw [hK, hk]; exact ⟨rfl, rfl⟩)
  have HK0 := Lib.hid hk
  clear hBB hN hW hp hS hE hF hK hk
  go_enter Tryz.func8, Tryz.ntmps8
  go_upto_region 1 with (fail)
  rw [← HB0.out]
  generalize w.alloc (.cells (fmCells x).toArray 32) = w1 at *
  have RG := Lib.hid (IsObj.range O1.out)
  go_upto_region 4 with (first | (refine wpList_load_mid (by rfl) 32 _ (by rfl) B 0 (by rfl) (fmCells x) _ (by exact RG.out) Tryz.underlying32 rfl (by kernel_rfl) ?_) | (go_at_call 27; refine (KO _).mono ?_; rintro e w2 ⟨rfl, b2⟩))
  have HN2 := Lib.hid (HN.out.same b2)
  have HW2 := Lib.hid (HW.out.same b2)
  go_upto_region 5 with (go_at_call 138; refine (KB _ HN2.out HW2.out).mono ?_; rintro e w3 ⟨rfl, b3⟩)
  have O3 := Lib.hid (IsObj.below (IsObj.below O1.out b2 O1.out.lt) b3 (Nat.lt_of_lt_of_le O1.out.lt b2.size))
  have B3 := Lib.hid (B1.out.trans ((b2.trans (b3.mono b2.size)).mono B1.out.size))
  clear b2 b3 O1 B1 HN HW HN2 HW2 RG hm KB KO
  by_cases hE0 : bodyE x = 0
  · skip
    have hq : ∀ w, (binOp .neq 32 (fmV (pureF x)) (fmV x)).run Tryz.prog w = .ok (.bool (!fmEq (pureF x) x)) w := fun w => fm_neq _ _ w
    generalize hr : fmEq (pureF x) x = r at *
    refine wp_region_held_drew (S := fun W => Below w3.heap.size w3 W) (by kernel_rfl) ?_ (fun hHeld => ?_)
    · (try dsimp only); first | assumption | exact (Below.refl _ _).drew
    refine wpAnyH_take (i := 0) (oi := ?oi9) (v := ?v9) ?hi9 (by kernel_rfl) (by kernel_rfl) (by kernel_rfl) ?hQ9 ?hy9 (by assumption) ?_
    case hi9 => (simp only [List.getElem?_toArray, List.getElem?_cons_succ, List.getElem?_cons_zero]; rfl)
    case hQ9 => exact fun _ _ _ h => h
    case hy9 => (refine Or.inl ⟨by rfl, ?_⟩; intro w hSw; (try dsimp only at hSw); go_simp; try with_reducible rfl)
    try simp only [Act.put, List.setIfInBounds_toArray, List.set_cons_zero, List.set_cons_succ]
    refine wpAnyH_take (i := 1) (oi := ?oi10) (v := ?v10) ?hi10 (by kernel_rfl) (by kernel_rfl) (by kernel_rfl) ?hQ10 ?hy10 (by assumption) ?_
    case hi10 => (simp only [List.getElem?_toArray, List.getElem?_cons_succ, List.getElem?_cons_zero]; rfl)
    case hQ10 => exact fun _ _ _ h => h
    case hy10 => (refine Or.inl ⟨by rfl, ?_⟩; intro w hSw; (try dsimp only at hSw); go_simp; try with_reducible rfl)
    try simp only [Act.put, List.setIfInBounds_toArray, List.set_cons_zero, List.set_cons_succ]
    refine wpAnyH_take (i := 2) (oi := ?oi11) (v := ?v11) ?hi11 (by kernel_rfl) (by kernel_rfl) (by kernel_rfl) ?hQ11 ?hy11 (by assumption) ?_
    case hi11 => (simp only [List.getElem?_toArray, List.getElem?_cons_succ, List.getElem?_cons_zero]; rfl)
    case hQ11 => exact fun _ _ _ h => h
    case hy11 => (refine Or.inl ⟨by rfl, ?_⟩; intro w hSw; (try dsimp only at hSw); go_simp; try with_reducible rfl)
    try simp only [Act.put, List.setIfInBounds_toArray, List.set_cons_zero, List.set_cons_succ]
    refine wpAnyH_take (i := 3) (oi := ?oi12) (v := ?v12) ?hi12 (by kernel_rfl) (by kernel_rfl) (by kernel_rfl) ?hQ12 ?hy12 (by assumption) ?_
    case hi12 => (simp only [List.getElem?_toArray, List.getElem?_cons_succ, List.getElem?_cons_zero]; rfl)
    case hQ12 => exact fun _ _ _ h => h
    case hy12 => (refine Or.inl ⟨by rfl, ?_⟩; intro w hSw; (try dsimp only at hSw); go_simp; try with_reducible rfl)
    try simp only [Act.put, List.setIfInBounds_toArray, List.set_cons_zero, List.set_cons_succ]
    refine wpAnyH_take (i := 5) (oi := ?oi13) (v := .agg (fmCells x).toArray) ?hi13 (by kernel_rfl) (by kernel_rfl) (by kernel_rfl) ?hQ13 ?hy13 (by assumption) ?_
    case hi13 => (simp only [List.getElem?_toArray, List.getElem?_cons_succ, List.getElem?_cons_zero]; rfl)
    case hQ13 => exact fun _ _ _ h => h
    case hy13 => exact yieldsIf_load_mid (by rfl) 32 _ (by rfl) B 0 (by rfl) (fmCells x) _ (fun w hw => IsObj.range (IsObj.below O3.out hw O3.out.lt)) Tryz.underlying32 rfl (by kernel_rfl)
    try simp only [Act.put, List.setIfInBounds_toArray, List.set_cons_zero, List.set_cons_succ]
    refine wpAnyH_ready (rs := [4]) (by kernel_rfl) (by simp) ?_
    refine AllReadyH.cons (o := ?oi1404) ?ho1404 (fun K hK => ?_) AllReadyH.nil
    case ho1404 => (simp only [List.getElem?_toArray, List.getElem?_cons_succ, List.getElem?_cons_zero]; rfl)
    go_simp
    go_at_call 21; (with_reducible refine (KW _).mono ?_); rintro e wA ⟨rfl, hbA⟩; have hkA := below_go (by assumption) hbA
    refine hK.out _ _ ?_ (fun hHeld => ?_)
    · (try dsimp only); first | assumption | exact (Below.refl _ _).drew
    clear hK K
    try simp only [Act.put, List.setIfInBounds_toArray, List.set_cons_zero, List.set_cons_succ]
    refine wpAnyH_take (i := 6) (oi := ?oi15) (v := ?v15) ?hi15 (by kernel_rfl) (by kernel_rfl) (by kernel_rfl) ?hQ15 ?hy15 (by assumption) ?_
    case hi15 => (simp only [List.getElem?_toArray, List.getElem?_cons_succ, List.getElem?_cons_zero]; rfl)
    case hQ15 => exact fun _ _ _ h => h
    case hy15 => (refine Or.inl ⟨by rfl, ?_⟩; intro w hSw; (try dsimp only at hSw); go_simp; try with_reducible rfl)
    try simp only [Act.put, List.setIfInBounds_toArray, List.set_cons_zero, List.set_cons_succ]
    refine wpAnyH_take (i := 7) (oi := ?oi16) (v := ?v16) ?hi16 (by kernel_rfl) (by kernel_rfl) (by kernel_rfl) ?hQ16 ?hy16 (by assumption) ?_
    case hi16 => (simp only [List.getElem?_toArray, List.getElem?_cons_succ, List.getElem?_cons_zero]; rfl)
    case hQ16 => exact fun _ _ _ h => h
    case hy16 => (refine Or.inl ⟨by rfl, ?_⟩; intro w hSw; (try dsimp only at hSw); go_simp; try with_reducible rfl)
    try simp only [Act.put, List.setIfInBounds_toArray, List.set_cons_zero, List.set_cons_succ]
    refine wpAnyH_done (by kernel_rfl) ?_ _
    have B4 := Lib.hid (B3.out.trans (hkA.mono B3.out.size))
    have k0 : wA.cell? ⟨B, 0, none⟩ = some (.int .i64 2) := by rw [IsObj.cell (IsObj.below O3.out hkA O3.out.lt) 0]; show some (Value.int .i64 x.k) = _; rw [HK0.out]
    clear B3 O3 hkA hq KW
    cases r with
    | false =>
      go_wp2
      go_returns
      rw [HS.out.1, HS.out.2, if_pos (by simp), if_pos (by simp)]
      exact ⟨rfl, B4.out⟩
    | true =>
      go_wp2_with (go_at_call 28; refine (KP _).mono ?_; rintro e w4 ⟨rfl, b4⟩)
      go_returns
      rw [HS.out.1, HS.out.2, if_neg (by rintro (h | h); exact h hE0; cases h), if_neg (by rintro (h | h); exact h hE0; cases h)]
      exact ⟨rfl, B4.out.trans (b4.mono B4.out.size)⟩
  · have hE1 : (bodyE x != 0) = true := by simpa using hE0
    have hE2 := Lib.hid hE0
    clear hE0
    generalize bodyE x = be at *
    ((first | (with_reducible refine region_ext2 (by kernel_rfl) (by kernel_rfl) ?_) | (refine region_ext (by kernel_rfl) (by kernel_rfl) ?_)); (repeat ((with_reducible refine wpQuiet_step (fun K hK => ?_)); go_simp; (first | ((refine hK _ ?_); clear hK K) | ((apply Exists.intro); (refine ⟨fun _ => ?_, hK _ ?_⟩); (first | (go_at_call 21; with_reducible exact ext_below (KW _))); clear hK K)))); refine wpQuiet_nil ?_; rintro _ ⟨uq, rfl⟩)
    have B4 := Lib.hid (below_ext uq B3.out B3.out.size)
    clear B3 O3 KW
    go_wp2
    go_returns
    rw [HS.out.1, HS.out.2, if_pos (.inl hE2.out), if_pos (.inl hE2.out)]
    exact ⟨rfl, B4.out⟩
set_option maxRecDepth 100000 in
set_option maxHeartbeats 2000000 in
theorem enc_p (x : Fm) (hk : x.k = 3) (w : World) (hN : NmAt w) (hW : WdAt w) : Calls Tryz.prog 8 #[fmV x] w fun e w' => e = .returned (.tuple #[.string (encS x), .int .i64 (encE x)]) ∧ Below w.heap.size w w' := by
  have hp : partV x = .iface 74 (psV x.p) := by unfold partV; rw [hk]; rfl
  have hm : ∀ w, (method 284 74 (psV x.p) "lockkeeper/frame.body").run Tryz.prog w = .ok (142, psV x.p) w := fun _ => by kernel_rfl
  have hS : bodyS x = putP x.p := by unfold bodyS; rw [hk]; rfl
  have hE : bodyE x = errP x.p := by unfold bodyE; rw [hk]; rfl
  have hF : pureF x = ⟨3, q0, a0, x.p⟩ := by unfold pureF; rw [hk]; rfl
  have hK : kindOk x = true := by unfold kindOk; rw [hk]; rfl
  have KB : ∀ w, NmAt w → WdAt w → Calls Tryz.prog 142 #[psV x.p] w fun e w' => e = .returned (.tuple #[.string (bodyS x), .int .i64 (bodyE x)]) ∧ Below w.heap.size w w' := fun w h1 h2 => by
    rw [hS, hE]; exact body_p _ w h2
  have KW : ∀ w, Calls Tryz.prog 21 #[.iface 74 (psV x.p)] w fun e w' => e = .returned (.agg (fmCells (pureF x)).toArray) ∧ Below w.heap.size w w' := fun w => by
    rw [hF]; exact whole_p _ w
  have KO : ∀ w, Calls Tryz.prog 27 #[fmV x] w fun e w' => e = .returned (.iface 74 (psV x.p)) ∧ Below w.heap.size w w' := fun w => by
    have h := of_any x w
    rw [hp] at h
    exact h
  have KP := fun w => hput_any 3 (bodyS x) w (by have := bodyS_sz x; omega)
  obtain ⟨B, hBB⟩ : ∃ B, B = w.heap.size := ⟨_, rfl⟩
  have HB0 := Lib.hid hBB
  have O1 := Lib.hid (show IsObj (w.alloc (.cells (fmCells x).toArray 32)) B 32 (fmCells x) by rw [hBB]; exact IsObj.new w _ (fmCells x))
  have B1 := Lib.hid (show Below w.heap.size w (w.alloc (.cells (fmCells x).toArray 32)) from (Below.refl _ _).alloc (Nat.le_refl _) _)
  have HN := Lib.hid (hN.same B1.out)
  have HW := Lib.hid (hW.same B1.out)
  have HS := Lib.hid (show encS x = (if bodyE x ≠ 0 ∨ fmEq (pureF x) x = false then ⟨#[]⟩ else hpS 3 (bodyS x)) ∧ encE x = (if bodyE x ≠ 0 ∨ fmEq (pureF x) x = false then 1 else hpE 3 (bodyS x)) by
    unfold encS encE; rw [hK, hk]; exact ⟨rfl, rfl⟩)
  have HK0 := Lib.hid hk
  clear hBB hN hW hp hS hE hF hK hk
  go_enter Tryz.func8, Tryz.ntmps8
  go_upto_region 1 with (fail)
  rw [← HB0.out]
  generalize w.alloc (.cells (fmCells x).toArray 32) = w1 at *
  have RG := Lib.hid (IsObj.range O1.out)
  go_upto_region 4 with (first | (refine wpList_load_mid (by rfl) 32 _ (by rfl) B 0 (by rfl) (fmCells x) _ (by exact RG.out) Tryz.underlying32 rfl (by kernel_rfl) ?_) | (go_at_call 27; refine (KO _).mono ?_; rintro e w2 ⟨rfl, b2⟩))
  have HN2 := Lib.hid (HN.out.same b2)
  have HW2 := Lib.hid (HW.out.same b2)
  go_upto_region 5 with (go_at_call 142; refine (KB _ HN2.out HW2.out).mono ?_; rintro e w3 ⟨rfl, b3⟩)
  have O3 := Lib.hid (IsObj.below (IsObj.below O1.out b2 O1.out.lt) b3 (Nat.lt_of_lt_of_le O1.out.lt b2.size))
  have B3 := Lib.hid (B1.out.trans ((b2.trans (b3.mono b2.size)).mono B1.out.size))
  clear b2 b3 O1 B1 HN HW HN2 HW2 RG hm KB KO
  by_cases hE0 : bodyE x = 0
  · skip
    have hq : ∀ w, (binOp .neq 32 (fmV (pureF x)) (fmV x)).run Tryz.prog w = .ok (.bool (!fmEq (pureF x) x)) w := fun w => fm_neq _ _ w
    generalize hr : fmEq (pureF x) x = r at *
    refine wp_region_held_drew (S := fun W => Below w3.heap.size w3 W) (by kernel_rfl) ?_ (fun hHeld => ?_)
    · (try dsimp only); first | assumption | exact (Below.refl _ _).drew
    refine wpAnyH_take (i := 0) (oi := ?oi17) (v := ?v17) ?hi17 (by kernel_rfl) (by kernel_rfl) (by kernel_rfl) ?hQ17 ?hy17 (by assumption) ?_
    case hi17 => (simp only [List.getElem?_toArray, List.getElem?_cons_succ, List.getElem?_cons_zero]; rfl)
    case hQ17 => exact fun _ _ _ h => h
    case hy17 => (refine Or.inl ⟨by rfl, ?_⟩; intro w hSw; (try dsimp only at hSw); go_simp; try with_reducible rfl)
    try simp only [Act.put, List.setIfInBounds_toArray, List.set_cons_zero, List.set_cons_succ]
    refine wpAnyH_take (i := 1) (oi := ?oi18) (v := ?v18) ?hi18 (by kernel_rfl) (by kernel_rfl) (by kernel_rfl) ?hQ18 ?hy18 (by assumption) ?_
    case hi18 => (simp only [List.getElem?_toArray, List.getElem?_cons_succ, List.getElem?_cons_zero]; rfl)
    case hQ18 => exact fun _ _ _ h => h
    case hy18 => (refine Or.inl ⟨by rfl, ?_⟩; intro w hSw; (try dsimp only at hSw); go_simp; try with_reducible rfl)
    try simp only [Act.put, List.setIfInBounds_toArray, List.set_cons_zero, List.set_cons_succ]
    refine wpAnyH_take (i := 2) (oi := ?oi19) (v := ?v19) ?hi19 (by kernel_rfl) (by kernel_rfl) (by kernel_rfl) ?hQ19 ?hy19 (by assumption) ?_
    case hi19 => (simp only [List.getElem?_toArray, List.getElem?_cons_succ, List.getElem?_cons_zero]; rfl)
    case hQ19 => exact fun _ _ _ h => h
    case hy19 => (refine Or.inl ⟨by rfl, ?_⟩; intro w hSw; (try dsimp only at hSw); go_simp; try with_reducible rfl)
    try simp only [Act.put, List.setIfInBounds_toArray, List.set_cons_zero, List.set_cons_succ]
    refine wpAnyH_take (i := 3) (oi := ?oi20) (v := ?v20) ?hi20 (by kernel_rfl) (by kernel_rfl) (by kernel_rfl) ?hQ20 ?hy20 (by assumption) ?_
    case hi20 => (simp only [List.getElem?_toArray, List.getElem?_cons_succ, List.getElem?_cons_zero]; rfl)
    case hQ20 => exact fun _ _ _ h => h
    case hy20 => (refine Or.inl ⟨by rfl, ?_⟩; intro w hSw; (try dsimp only at hSw); go_simp; try with_reducible rfl)
    try simp only [Act.put, List.setIfInBounds_toArray, List.set_cons_zero, List.set_cons_succ]
    refine wpAnyH_take (i := 5) (oi := ?oi21) (v := .agg (fmCells x).toArray) ?hi21 (by kernel_rfl) (by kernel_rfl) (by kernel_rfl) ?hQ21 ?hy21 (by assumption) ?_
    case hi21 => (simp only [List.getElem?_toArray, List.getElem?_cons_succ, List.getElem?_cons_zero]; rfl)
    case hQ21 => exact fun _ _ _ h => h
    case hy21 => exact yieldsIf_load_mid (by rfl) 32 _ (by rfl) B 0 (by rfl) (fmCells x) _ (fun w hw => IsObj.range (IsObj.below O3.out hw O3.out.lt)) Tryz.underlying32 rfl (by kernel_rfl)
    try simp only [Act.put, List.setIfInBounds_toArray, List.set_cons_zero, List.set_cons_succ]
    refine wpAnyH_ready (rs := [4]) (by kernel_rfl) (by simp) ?_
    refine AllReadyH.cons (o := ?oi2204) ?ho2204 (fun K hK => ?_) AllReadyH.nil
    case ho2204 => (simp only [List.getElem?_toArray, List.getElem?_cons_succ, List.getElem?_cons_zero]; rfl)
    go_simp
    go_at_call 21; (with_reducible refine (KW _).mono ?_); rintro e wA ⟨rfl, hbA⟩; have hkA := below_go (by assumption) hbA
    refine hK.out _ _ ?_ (fun hHeld => ?_)
    · (try dsimp only); first | assumption | exact (Below.refl _ _).drew
    clear hK K
    try simp only [Act.put, List.setIfInBounds_toArray, List.set_cons_zero, List.set_cons_succ]
    refine wpAnyH_take (i := 6) (oi := ?oi23) (v := ?v23) ?hi23 (by kernel_rfl) (by kernel_rfl) (by kernel_rfl) ?hQ23 ?hy23 (by assumption) ?_
    case hi23 => (simp only [List.getElem?_toArray, List.getElem?_cons_succ, List.getElem?_cons_zero]; rfl)
    case hQ23 => exact fun _ _ _ h => h
    case hy23 => (refine Or.inl ⟨by rfl, ?_⟩; intro w hSw; (try dsimp only at hSw); go_simp; try with_reducible rfl)
    try simp only [Act.put, List.setIfInBounds_toArray, List.set_cons_zero, List.set_cons_succ]
    refine wpAnyH_take (i := 7) (oi := ?oi24) (v := ?v24) ?hi24 (by kernel_rfl) (by kernel_rfl) (by kernel_rfl) ?hQ24 ?hy24 (by assumption) ?_
    case hi24 => (simp only [List.getElem?_toArray, List.getElem?_cons_succ, List.getElem?_cons_zero]; rfl)
    case hQ24 => exact fun _ _ _ h => h
    case hy24 => (refine Or.inl ⟨by rfl, ?_⟩; intro w hSw; (try dsimp only at hSw); go_simp; try with_reducible rfl)
    try simp only [Act.put, List.setIfInBounds_toArray, List.set_cons_zero, List.set_cons_succ]
    refine wpAnyH_done (by kernel_rfl) ?_ _
    have B4 := Lib.hid (B3.out.trans (hkA.mono B3.out.size))
    have k0 : wA.cell? ⟨B, 0, none⟩ = some (.int .i64 3) := by rw [IsObj.cell (IsObj.below O3.out hkA O3.out.lt) 0]; show some (Value.int .i64 x.k) = _; rw [HK0.out]
    clear B3 O3 hkA hq KW
    cases r with
    | false =>
      go_wp2
      go_returns
      rw [HS.out.1, HS.out.2, if_pos (by simp), if_pos (by simp)]
      exact ⟨rfl, B4.out⟩
    | true =>
      go_wp2_with (go_at_call 28; refine (KP _).mono ?_; rintro e w4 ⟨rfl, b4⟩)
      go_returns
      rw [HS.out.1, HS.out.2, if_neg (by rintro (h | h); exact h hE0; cases h), if_neg (by rintro (h | h); exact h hE0; cases h)]
      exact ⟨rfl, B4.out.trans (b4.mono B4.out.size)⟩
  · have hE1 : (bodyE x != 0) = true := by simpa using hE0
    have hE2 := Lib.hid hE0
    clear hE0
    generalize bodyE x = be at *
    ((first | (with_reducible refine region_ext2 (by kernel_rfl) (by kernel_rfl) ?_) | (refine region_ext (by kernel_rfl) (by kernel_rfl) ?_)); (repeat ((with_reducible refine wpQuiet_step (fun K hK => ?_)); go_simp; (first | ((refine hK _ ?_); clear hK K) | ((apply Exists.intro); (refine ⟨fun _ => ?_, hK _ ?_⟩); (first | (go_at_call 21; with_reducible exact ext_below (KW _))); clear hK K)))); refine wpQuiet_nil ?_; rintro _ ⟨uq, rfl⟩)
    have B4 := Lib.hid (below_ext uq B3.out B3.out.size)
    clear B3 O3 KW
    go_wp2
    go_returns
    rw [HS.out.1, HS.out.2, if_pos (.inl hE2.out), if_pos (.inl hE2.out)]
    exact ⟨rfl, B4.out⟩
set_option maxRecDepth 100000 in
theorem enc_bad (x : Fm) (hk : kindOk x = false) (w : World) : Calls Tryz.prog 8 #[fmV x] w fun e w' => e = .returned (.tuple #[.string (encS x), .int .i64 (encE x)]) ∧ Below w.heap.size w w' := by
  have hp : partV x = .nilIface := by
    unfold kindOk at hk
    have hk := of_decide_eq_false hk
    unfold partV
    rw [if_neg (by omega), if_neg (by omega), if_neg (by omega)]
  have KO : ∀ w, Calls Tryz.prog 27 #[fmV x] w fun e w' => e = .returned .nilIface ∧ Below w.heap.size w w' := fun w => by
    have h := of_any x w
    rw [hp] at h
    exact h
  obtain ⟨B, hBB⟩ : ∃ B, B = w.heap.size := ⟨_, rfl⟩
  have HB0 := Lib.hid hBB
  have O1 := Lib.hid (show IsObj (w.alloc (.cells (fmCells x).toArray 32)) B 32 (fmCells x) by rw [hBB]; exact IsObj.new w _ (fmCells x))
  have B1 := Lib.hid (show Below w.heap.size w (w.alloc (.cells (fmCells x).toArray 32)) from (Below.refl _ _).alloc (Nat.le_refl _) _)
  have HS := Lib.hid (show encS x = ⟨#[]⟩ ∧ encE x = 5 by unfold encS encE; rw [hk]; exact ⟨rfl, rfl⟩)
  clear hBB hp hk
  go_enter Tryz.func8, Tryz.ntmps8
  go_upto_region 1 with (fail)
  rw [← HB0.out]
  generalize w.alloc (.cells (fmCells x).toArray 32) = w1 at *
  have RG := Lib.hid (IsObj.range O1.out)
  go_wp2_with (first | (refine wpList_load_mid (by rfl) 32 _ (by rfl) B 0 (by rfl) (fmCells x) _ (by exact RG.out) Tryz.underlying32 rfl (by kernel_rfl) ?_) | (go_at_call 27; refine (KO _).mono ?_; rintro e w2 ⟨rfl, b2⟩))
  go_returns
  rw [HS.out.1, HS.out.2]
  exact ⟨rfl, B1.out.trans (b2.mono B1.out.size)⟩
theorem enc_any (x : Fm) (w : World) (hN : NmAt w) (hW : WdAt w) : Calls Tryz.prog 8 #[fmV x] w fun e w' => e = .returned (.tuple #[.string (encS x), .int .i64 (encE x)]) ∧ Below w.heap.size w w' := by
  by_cases h1 : x.k = 1
  · exact enc_q x h1 w hN hW
  · by_cases h2 : x.k = 2
    · exact enc_a x h2 w hN hW
    · by_cases h3 : x.k = 3
      · exact enc_p x h3 w hN hW
      · exact enc_bad x (decide_eq_false (by omega)) w
end Go.Proofs.YtobcjbpgeohbgaaGreatDoor
