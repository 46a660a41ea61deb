/-
  The statement RequestPuts of layer 24 (request). No condition.
-/
import Derived.Test.YtmohgbnfhpffjaaLaw24e
namespace Go.Proofs.Ytmohgbnfhpffjaa
open Go.RowKit
set_option linter.unusedVariables false

set_option maxRecDepth 100000 in
set_option maxHeartbeats 2000000 in
theorem rputs_walk (x : Rq) (now seq : Int) (w : World) : Calls Try.prog 9 #[rqV x, .int .i64 now, .int .i64 seq] w fun e w' => e = .returned (.bool true) ∧ Below w.heap.size w w' := by
  have HZ := Lib.hid awake24
  have P1 := fun w => qput_any x w
  have P2 := fun w => rqput_any x w
  have C1 := fun w => check_any x w
  have C2 := fun w => rcheck_any x w
  generalize putS x = s at *
  generalize errOf x = er at *
  have HP1 := Lib.hid P1
  have HP2 := Lib.hid P2
  have HC1 := Lib.hid C1
  have HC2 := Lib.hid C2
  have HI := Lib.hid (fun w => item_any x now seq w)
  clear P1 P2 C1 C2
  have hR0 : RqAt (w.alloc (.cells (rqCells x).toArray 48)) w.heap.size x := IsObj.new w _ (rqCells x)
  have hb0 : Below w.heap.size w (w.alloc (.cells (rqCells x).toArray 48)) := (Below.refl _ _).alloc (Nat.le_refl _) _
  have HR0 := Lib.hid hR0
  have HB0 := Lib.hid hb0
  clear hR0 hb0
  go_enter Try.func9, Try.ntmps9
  go_wp2_with fail
  refine (HP1.out _).mono ?_
  rintro e w1 ⟨rfl, hb1⟩
  have hR1 := HR0.out.same hb1
  have HR1 := Lib.hid hR1
  have HB1 := Lib.hid (HB0.out.trans (hb1.mono HB0.out.size))
  obtain ⟨a0, a1, a2, a3, a4, a5⟩ := hR1.six
  clear hb1 hR1
  go_wp2_with fail
  refine (HP2.out _).mono ?_
  rintro e w2 ⟨rfl, hb2⟩
  clear a0 a1 a2 a3 a4 a5
  have hR2 := HR1.out.same hb2
  have hB2 := HB1.out.trans (hb2.mono HB1.out.size)
  obtain ⟨a0, a1, a2, a3, a4, a5⟩ := hR2.six
  have hA := cell_lt a0
  have HB2 := Lib.hid hB2
  have hsz2 := hB2.size
  simp only at hA
  clear hb2 hR2 hB2 HR0 HB0 HR1 HB1
  go_wp2_with fail
  ((first | (with_reducible refine region_ext2 (by kernel_rfl) (by kernel_rfl) ?_) | (refine region_ext (by kernel_rfl) (by kernel_rfl) ?_)); (repeat ((with_reducible refine wpQuiet_step (fun K hK => ?_)); go_simp; (first | ((refine hK _ ?_); clear hK K) | ((apply Exists.intro); (refine ⟨fun _ => ?_, hK _ ?_⟩); (first | (go_at_call 33; with_reducible exact ext_below (HC1.out _)) | (go_at_call 34; with_reducible exact ext_below (HC2.out _)) | (go_at_call 35; with_reducible exact ext_below (HI.out _)) | (go_at_call 28; with_reducible exact ext_below (HZ.out _))); clear hK K)))); refine wpQuiet_nil ?_; rintro _ ⟨uq, rfl⟩)
  go_wp2
  go_ret
  exact ⟨rfl, below_ext _ HB2.out hsz2⟩
theorem rputs_done : Walk 9 Try.f9 := by
  intro W args hs hc
  rw [Try.params9] at hs hc
  obtain ⟨l⟩ := args
  match l, hs with
  | [v0, v1, v2], _ =>
    obtain ⟨x, rfl⟩ := came_rq (hc 0 48 v0 rfl rfl)
    obtain ⟨n, rfl, _⟩ := came_int Try.underlying3 (hc 1 3 v1 rfl rfl)
    obtain ⟨m, rfl, _⟩ := came_int Try.underlying3 (hc 2 3 v2 rfl rfl)
    exact rputs_walk x n m W
end Go.Proofs.Ytmohgbnfhpffjaa
