/-
  The statement FrameDecodes: for every input the law returns true, and each argument reads behind the call as it read before; the listed package variable is tied to the program's text. No condition.
-/
import Derived.Test.YtobcjbpgeohbgaaGreatDoorDoorW27d
import Derived.Test.YtobcjbpgeohbgaaGreatDoorTie
import Derived.Test.YtobcjbpgeohbgaaGreatDoorCards
namespace Go.Proofs.YtobcjbpgeohbgaaGreatDoor
open Go Go.RowKit Go.ChangeShapes Go.WideShapes
set_option maxRecDepth 100000 in
theorem frameDecodes_lifted (os : Os) (started : os.Started) (H : Type) (enc : TypeId × Value → H) :
    ReturnsInHanded {} Tryz.checked os 3 .any (fun w args => (Rows.frameDecodesSpec.pre enc Tryz.prog Tryz.f3 [] false w args ∧ laidMetH Tryz.prog laidL w) ∧ sizedMet enc Tryz.prog Tryz.f3 (OpenSpec.ofChange Rows.frameDecodesSpec) false w args)
      (Rows.frameDecodesSpec.post enc Tryz.prog Tryz.f3 false true false false) :=
  returnsInHanded_of_change_and (C := Tryz.checked) (X := fun w _ => laidMetH Tryz.prog laidL w) (fun _ _ _ hh h => h.of_heap hh) ownKnobs started (by kernel_rfl) Tryz.func3
    (ChangeSpec.witness_shaped (enc := enc) (C := Tryz.checked) (os := os) (X := fun w _ => laidMetH Tryz.prog laidL w) false (World.doorLaid Tryz.prog 400 os) #[.string ⟨#[]⟩] 8 rfl (World.shaped_of_RefB (by kernel_rfl) (by kernel_rfl)) (by kernel_rfl) (by kernel_rfl) (by kernel_rfl) (door_met os _))
    (fun W base args ds gs before hval hW _ _ hL _ => law_stepX (X := X27) (s := Rows.frameDecodesSpec) (by kernel_rfl) rfl Tryz.underlying4 rfl (fun ds hd => by match ds, hd with | [_], _ => rfl) fdecodes_done W (x_of_laid hL) base args ds gs before hval hW)
theorem frameDecodes_row_holds : Rows.FrameDecodesSaid :=
  OpenClaim.holds_of_wide 3 Tryz.f3 rfl rfl rfl rfl rfl rfl rfl ⟨rfl, rfl, rfl, rfl, rfl⟩ rfl rfl rfl rfl rfl (by kernel_rfl) Tryz.func3 (by kernel_rfl)
    (of_decide_eq_true (by kernel_rfl)) (by unfold Func.isWrapper; first | (rw [if_pos (by decide +kernel)]; kernel_rfl) | (rw [if_neg (by decide +kernel)]; exact ⟨rfl, rfl⟩))
    (fun os started H enc _ => frameDecodes_lifted os started H enc)
/-- THE STATEMENT. -/
theorem frameDecodesCard_holds : Rows.FrameDecodesCardSaid :=
  Claim7.holds_tied_plain_at .later [] [.data, .widerDeep] true (true, "291ed8552af5ed8d31050bd400efc8eea21dc6107a2851a10f7155e855f2c462") true
    frameDecodes_row_holds (fun _ h => by cases h) (by kernel_rfl) (fun _ h => by cases h) frameDecodes_row_tie rfl ⟨rfl, rfl⟩ (by kernel_rfl) rfl
    (fun f fn hf hfn => by
      obtain rfl : f = 3 := Option.some.inj ((show Tryz.prog.funcNamed "lockkeeper/lockkeeperlaw27.FrameDecodes" = some 3 by kernel_rfl).symm.trans hf) |>.symm
      obtain rfl : fn = Tryz.f3 := (Option.some.inj (Tryz.func3.symm.trans hfn)).symm
      exact ⟨by kernel_rfl, fun j t ht => by
        rw [Tryz.params3] at ht
        have hm : t ∈ [9] := by simpa using Array.mem_of_getElem? ht
        have hall : ([9].all fun u => !Tryz.prog.wantsStandIn u) = true := by kernel_rfl
        exact (show Tryz.prog.wantsStandIn t = false by simpa using List.all_eq_true.1 hall t hm)⟩)
    (by kernel_rfl)
#print axioms frameDecodesCard_holds
end Go.Proofs.YtobcjbpgeohbgaaGreatDoor
