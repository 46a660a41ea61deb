/-
  slices.SortStableFunc over items, rank.going; rank.Sort.
-/
import Derived.Test.YtmanmebgmhpilaaSortN
import Derived.Test.YtmanmebgmhpilaaRank
namespace Go.Proofs.Ytmanmebgmhpilaa
open Go.Shelf Go.RowKit Go.Lib Go.Sort
set_option linter.unusedVariables false

def insRen : Ren := ⟨fun k => if k = 20 then 71 else k, fun k => if k = 0 then 0 else if k = 3 then 3 else if k = 4 then 4 else if k = 22 then 22 else if k = 24 then 31 else if k = 25 then 87 else k, fun k => k⟩
theorem insLays : SlLaysF0.n20 Try.prog insRen where
  mixed := by kernel_rfl
  f20 := ⟨"slices.insertionSortCmpFunc[lockkeeper/api.Item]", by kernel_rfl, by kernel_rfl⟩
  t0 := Try.underlying0
  a0 := fun w => by kernel_rfl
  z0 := fun w => by kernel_rfl
  v0 := fun w => by kernel_rfl
  t3 := Try.underlying3
  a3 := fun w => by kernel_rfl
  z3 := fun w => by kernel_rfl
  v3 := fun w => by kernel_rfl
  t4 := Try.underlying4
  a4 := fun w => by kernel_rfl
  z4 := fun w => by kernel_rfl
  v4 := fun w => by kernel_rfl
  t22 := Try.underlying22
  a22 := fun w => by kernel_rfl
  z22 := fun w => by kernel_rfl
  v22 := fun w => by kernel_rfl
  t25 := Try.underlying87
  a25 := fun w => by kernel_rfl
  z25 := fun w => by kernel_rfl
  v25 := fun w => by kernel_rfl
theorem stLays : StLays Try.prog 7 where
  mixed := by kernel_rfl
  f76 := Try.func76
  f75 := Try.func75
  f72 := Try.func72
  f66 := Try.func66
  t0 := Try.underlying0
  a0 := fun w => by kernel_rfl
  z0 := fun w => by kernel_rfl
  v0 := fun w => by kernel_rfl
  t3 := Try.underlying3
  a3 := fun w => by kernel_rfl
  z3 := fun w => by kernel_rfl
  v3 := fun w => by kernel_rfl
  t4 := Try.underlying4
  a4 := fun w => by kernel_rfl
  z4 := fun w => by kernel_rfl
  v4 := fun w => by kernel_rfl
  t22 := Try.underlying22
  a22 := fun w => by kernel_rfl
  z22 := fun w => by kernel_rfl
  v22 := fun w => by kernel_rfl
  t25 := Try.underlying87
  a25 := fun w => by kernel_rfl
  z25 := fun w => by kernel_rfl
  v25 := fun w => by kernel_rfl
  t26 := Try.underlying101
  a26 := fun w => by kernel_rfl
  z26 := fun w => by kernel_rfl
  v26 := fun w => by kernel_rfl
  aE := fun w => by kernel_rfl
  zE := fun w => by kernel_rfl

/-- Draws and new blocks alone. -/
def Grown (w w' : World) : Prop := ∃ q os, w' = grow (w.drewN q) os
theorem Grown.refl (w : World) : Grown w w := ⟨0, #[], by rw [grow_empty]; rfl⟩
theorem Grown.alloc {w w' : World} (h : Grown w w') (o : Obj) : Grown w (w'.alloc o) := by
  obtain ⟨q, os, rfl⟩ := h
  exact ⟨q, os ++ #[o], by rw [alloc_eq_grow, grow_grow]⟩
theorem Grown.drewN {w w' : World} (h : Grown w w') (n : Nat) : Grown w (w'.drewN n) := by
  obtain ⟨q, os, rfl⟩ := h
  exact ⟨q + n, os, by show _ = grow _ _; unfold grow World.drewN; simp [Nat.add_assoc]⟩
theorem Grown.drew {w w' : World} (h : Grown w w') : Grown w w'.drew := h.drewN 1
set_option maxRecDepth 100000 in
theorem going_grown (a b : It) (w : World) : Calls Try.prog 55 #[itV a, itV b] w fun e w' => e = .returned (.int .i64 (gI a b)) ∧ Grown w w' := by
  go_enter Try.func55, Try.ntmps55
  go_wp2_with fail
  (refine region_tail 15 (by kernel_rfl) (by kernel_rfl) ?_; simp only [List.take_succ_cons, List.take_zero, List.drop_succ_cons, List.drop_zero]; (repeat (refine wpStill_step (fun K hK => ?_); go_simp; (first | (refine hK _ ?_) | (with_reducible refine ⟨_, still_left (cmp_any _ _ _), hK _ ?_⟩)); clear hK K)); refine wpStill_nil ?_)
  go_wp2_with fail
  refine (first_any _ 0 3 [cmpI a.dl b.dl, cmpI a.seq b.seq, cmpI a.id b.id] _ (by simp) (newInts _ _ (by simp) [cmpI a.dl b.dl, cmpI a.seq b.seq, cmpI a.id b.id] 3)).mono ?_
  rintro e w2 ⟨rfl, rfl⟩
  go_wp2_with fail
  go_ret
  exact ⟨rfl, ((((Grown.refl _).alloc _).alloc _).alloc _).drew⟩

theorem it_cells1 (x : It) : ∀ v ∈ itCells x, v.oneCell' = true := by
  intro v hv
  simp only [itCells, List.mem_cons, List.not_mem_nil, or_false] at hv
  rcases hv with rfl | rfl | rfl | rfl | rfl | rfl | rfl <;> rfl
theorem cmpLays (blk off size : Nat) (w : World) : CmpLays Try.prog 55 #[] itCells 7 gI blk off size w :=
  fun _ _ _ _ x y => going_grown x y _

theorem swo_gI : SWO (ltOf gI) where
  irrefl x := by
    have := gI_cases x x
    unfold ltOf Ahead at *
    simp; omega
  trans x y z h1 h2 := by
    have q1 := gI_cases x y
    have q2 := gI_cases y z
    have q3 := gI_cases x z
    unfold ltOf at *
    simp only [decide_eq_true_eq] at *
    unfold Ahead Alike at *
    omega
  ntrans x y z h1 h2 := by
    have q1 := gI_cases x y
    have q2 := gI_cases y z
    have q3 := gI_cases x z
    unfold ltOf at *
    simp only [decide_eq_false_iff_not] at *
    unfold Ahead Alike at *
    omega

theorem SWK.cmpLays {enc : It → List Value} {k : Nat} {w0 W : World} {blk off : Nat} {dk : Array It} : True := trivial

theorem ins_any (blk off cap a b : Nat) (d : Array It) (W : World) (hH : HoldsK itCells 7 W blk off d) (hblk : blk < W.heap.size) (hab : a ≤ b) (hb : b ≤ d.size) (hsz : d.size < 4611686018427387904) :
    Calls Try.prog 71 #[.slice (some ⟨blk, off, none⟩) d.size cap, .int .i64 a, .int .i64 b, .func (.func 55) #[] #[]] W fun e w' =>
      e = .returned (.tuple #[]) ∧ ∃ n os, w' = sortWorldK itCells 7 W blk off n (Sort.insertionSort (ltOf gI) d a b) os := by
  have h := AnyQ.insertionSortCmpFunc insLays 7 (fun w => by kernel_rfl) (fun w => by kernel_rfl) itCells itCells_len it_cells1 gI 55 #[] blk off cap a b d W (enters_of Try.func55 (by kernel_rfl) rfl) (cmpLays _ _ _ _) hH hblk hab hb hsz
  exact h

theorem row_new_holds (W : World) (blk off : Nat) (d : Array It) : True := trivial

theorem stable_items (blk off cap : Nat) (d : Array It) (w : World) (hH : HoldsK itCells 7 w blk off d) (hblk : blk < w.heap.size) (hsz : d.size < 1152921504606846976) :
    Calls Try.prog 66 #[.slice (some ⟨blk, off, none⟩) d.size cap, .int .i64 (d.size : Nat), .func (.func 55) #[] #[]] w fun e w' => e = .returned (.tuple #[]) ∧ SWK itCells 7 w blk off (stableA (ltOf gI) d) w' := by
  have R : RowK itCells 7 w blk off d := ⟨itCells_len, it_cells1, hH, hblk⟩
  exact stable_any 7 stLays itCells gI 55 #[] blk off cap d d w w (enters_of Try.func55 (by kernel_rfl) rfl) (cmpLays _ _ _ _) R rfl (SWK.start hH) hsz
    (enters_of Try.func71 (by kernel_rfl) rfl)
    (fun a b d' W h1 h2 h3 h4 => by
      have h := ins_any blk off cap a b d' W (h2.holds hblk hH h1) (h2.lt hblk) h3 (by omega) (by omega)
      rw [h1] at h
      exact h.mono fun e w' ⟨he, n, os, hw⟩ => ⟨he, by rw [hw]; exact h2.on hblk n _ os (segst_ins swo_gI d' a b (by omega)).size⟩)
    (fun a b d' h1 h2 h3 => by rw [(segst_ins swo_gI d' a b (by omega)).size, h1])

theorem sortf_items (blk off cap : Nat) (d : Array It) (w : World) (hH : HoldsK itCells 7 w blk off d) (hblk : blk < w.heap.size) (hsz : d.size < 1152921504606846976) :
    Calls Try.prog 54 #[.slice (some ⟨blk, off, none⟩) d.size cap, .func (.func 55) #[] #[]] w fun e w' => e = .returned (.tuple #[]) ∧ SWK itCells 7 w blk off (stableA (ltOf gI) d) w' := by
  have hcon := stable_items blk off cap d w hH hblk hsz
  clear hH
  go_enter Try.func54, Try.ntmps54
  go_wp2_with (go_at_call 66; refine hcon.mono ?_; rintro e w' ⟨rfl, hS⟩)
  go_end0
  exact ⟨rfl, hS⟩
end Go.Proofs.Ytmanmebgmhpilaa
