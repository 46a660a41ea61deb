/-
  The statement RequestGets of layer 24 (request). No condition.
-/
import Derived.Test.YtmohgbnfhpffjaaLaw24c
namespace Go.Proofs.Ytmohgbnfhpffjaa
open Go.RowKit
set_option linter.unusedVariables false

set_option maxRecDepth 100000 in
set_option maxHeartbeats 1000000 in
theorem rgets_walk (body : ByteArray) (w : World) : Calls Try.prog 7 #[.string body] w fun e w' => e = .returned (.bool true) ∧ Below w.heap.size w w' := by
  have HZ := Lib.hid awake24
  by_cases hl : 40 < body.size
  · go_enter Try.func7, Try.ntmps7
    go_wp2_with (go_at_call 28; refine (HZ.out _).mono ?_; rintro e w1 ⟨rfl, hb⟩)
    go_ret
    exact ⟨rfl, hb⟩
  · have hd : decide ((40 : Int) < (body.size : Int)) = false := by simp; omega
    have hb2 : body.size ≤ 2147483648 := by omega
    have G1 := fun w => qget_any body w hb2
    have G2 := fun w => rget_any body w hb2
    generalize getB body = gy at *
    obtain ⟨y, g⟩ := gy
    have HG1 := Lib.hid G1
    have HG2 := Lib.hid G2
    clear G1 G2 hl hb2
    go_enter Try.func7, Try.ntmps7
    go_wp2_with fail
    refine (HG1.out _).mono ?_
    rintro e w1 ⟨rfl, hb1⟩
    have hv : RqAt (w1.alloc (.cells (rqCells y).toArray 48)) w1.heap.size y := IsObj.new w1 _ (rqCells y)
    have hb1a := hb1.alloc hb1.size (.cells (rqCells y).toArray 48)
    have HV := Lib.hid hv
    have HB1 := Lib.hid hb1a
    clear hv hb1a hb1
    go_wp2_with fail
    refine (HG2.out _).mono ?_
    rintro e w2 ⟨rfl, hb2⟩
    have hV2 := HV.out.same hb2
    have hB2 := HB1.out.trans (hb2.mono HB1.out.size)
    obtain ⟨a0, a1, a2, a3, a4, a5⟩ := hV2.six
    have hA := cell_lt a0
    have HB2 := Lib.hid hB2
    have hsz2 := hB2.size
    simp only at hA
    clear hb2 hV2 hB2 HV HB1
    go_wp2_with (go_at_call 28; refine (HZ.out _).mono ?_; rintro e w5 ⟨rfl, hb5⟩)
    go_ret
    exact ⟨rfl, (HB2.out.alloc hsz2 _).trans (hb5.mono (by simp; omega))⟩
theorem rgets_done : Walk 7 Try.f7 := by
  intro W args hs hc
  rw [Try.params7] at hs hc
  obtain ⟨l⟩ := args
  match l, hs with
  | [v0], _ =>
    obtain ⟨s, rfl, _⟩ := came_string Try.underlying9 (hc 0 9 v0 rfl rfl)
    exact rgets_walk s W
end Go.Proofs.Ytmohgbnfhpffjaa
