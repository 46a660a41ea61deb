/-
  The laid variable: what the condition gives, and the step of a law whose row lists it.
-/
import Derived.Test.YtobcjbpgeohbgaaGreatDoorFr11
import Derived.Test.YtobcjbpgeohbgaaGreatDoorRows
import Derived.LaidMore
import Derived.OpenShut
import Derived.ProofKit
import Derived.Stop.Joined
namespace Go.Proofs.YtobcjbpgeohbgaaGreatDoor
open Go.ChangeShapes Go.WideShapes Go.RowKit
set_option linter.unusedVariables false

/-- What the walk of such a law must show. -/
def WalkX (X : World → Prop) (F : FuncId) (fn : Func) : Prop :=
  ∀ (W : World), X W → ∀ (args : Array Value), args.size = fn.params.size → (∀ (j : Nat) (t : TypeId) (v : Value), fn.params[j]? = some t → args[j]? = some v → Came Tryz.prog W t v) →
    Calls Tryz.prog F args W fun e W' => e = .returned (.bool true) ∧ Below W.heap.size W W'

set_option maxRecDepth 100000 in
theorem law_stepX {X : World → Prop} {F : FuncId} {fn : Func} {s : ChangeSpec} {tb : TypeId} {H : Type} {enc : TypeId × Value → H}
    (hread : fn.params.toList.all (fun t => Tryz.prog.readableRec t && decide (t < Tryz.prog.types.size)) = true) (hres : fn.resultTypes = #[tb]) (hbool : Tryz.prog.underlying tb = some .bool) (hvars : s.vars = [])
    (hspec : ∀ ds : List (DataW H), ds.length = fn.params.size → s.fn H ds = { results := [.lit (.bool true)], args := ds }) (walk : WalkX X F fn)
    (W : World) (hX : X W) (base : Nat) (args : Array Value) (ds gs : List (DataW H)) (before : List MemPlace)
    (hval : ∀ (j : Nat) t v, fn.params[j]? = some t → args[j]? = some v → Value.okWide Tryz.prog W .any base t v)
    (hW : DataW.Whole enc Tryz.prog fn.params.toList s.vars false W args.toList ds gs before) :
    Calls Tryz.prog F args W fun e W' => ∃ v, e = .returned v ∧ s.post enc Tryz.prog fn false true false false W args v W' := by
  have hW' := hW
  obtain ⟨p, q, hA, hV, rfl, _, _⟩ := hW
  obtain ⟨hl1, hl2⟩ := trodAll_len _ _ _ _ hA
  rw [hvars] at hV
  have hgs : gs = [] ∧ q = [] := by
    cases gs with
    | nil => exact ⟨rfl, hV⟩
    | cons _ _ => exact hV.elim
  obtain ⟨rfl, rfl⟩ := hgs
  have hs := hspec (ds ++ []) (by simpa using hl2)
  refine (walk W hX args (by simpa using hl1) fun j t v ht hv => ?_).mono fun e W' ⟨he, hb⟩ => ?_
  · obtain ⟨d, p', hd⟩ := trodAll_at _ _ _ _ hA j t v (by simpa using ht) (by simpa using hv)
    exact ⟨⟨base, hval j t v ht hv⟩, H, enc, d, p', hd⟩
  · subst he
    refine ⟨_, rfl, ds, [], p ++ [], [], p, [], hW', ?_, ?_, ?_, hb.frame _, fun h => by cases h⟩
    · rw [hs, hres]
      exact trodAll_mk1 (shut_bool hbool _)
    · rw [hs]
      simpa using trodAll_stays laidOut hb _ _ _ _ hread hA
    · rw [hs, hvars]
      rfl


abbrev laidL : List (String × DataW Unit) := [("lockkeeper/push.widths", Rows.laid_lockkeeper_push_widths), ("lockkeeper/reply.names", Rows.laid_lockkeeper_reply_names)]
theorem gWidths : Tryz.prog.globalNamed "lockkeeper/push.widths" = some 0 := by kernel_rfl
theorem tWidths : (Tryz.prog.globals[0]?).map (·.type) = some 113 := by kernel_rfl
theorem gNames : Tryz.prog.globalNamed "lockkeeper/reply.names" = some 1 := by kernel_rfl
theorem tNames : (Tryz.prog.globals[1]?).map (·.type) = some 130 := by kernel_rfl
theorem door_met (os : Os) (args : Array Value) : laidMetH Tryz.prog laidL ((World.doorLaid Tryz.prog 400 os).forCall (fun _ _ => 0) ⟨#[], args, []⟩).memory :=
  laidMetH_of_parts3 (fuel := 8) (laidMet_of_run' 8 (by kernel_rfl) (by kernel_rfl)) (by kernel_rfl) (by kernel_rfl)
theorem drop_at {l : List Value} {i : Nat} {v : Value} (h : (l.drop (i * 1)).take 1 = [v]) : l[i]? = some v := by
  rw [Nat.mul_one] at h
  have := congrArg (fun l => l[0]?) h
  simpa [List.getElem?_take, List.getElem?_drop] using this
/-- What the condition gives: the nine widths. -/
theorem wd_of_laid {W : World} (h : laidMetH Tryz.prog laidL W) : WdAt W := by
  rw [MakeChecks.laidMetH_plain _ _ _ (by kernel_rfl)] at h
  obtain ⟨ps, ⟨g0, t0, cs0, f0, p0, q0, hg0, ht0, hv0, hd0, _, _⟩, _, _⟩ := h
  obtain rfl := Option.some.inj (gWidths.symm.trans hg0)
  obtain rfl := Option.some.inj (tWidths.symm.trans ht0)
  obtain ⟨xs, m1, rfl, hx1, hlen, hn3, hel⟩ := DataW.trod_array Tryz.underlying113 hd0
  have c3 : Tryz.prog.cellsOf 3 = 1 := by kernel_rfl
  simp only [Prod.mk.injEq, Rows.laid_lockkeeper_push_widths, DataW.agg.injEq] at hx1
  intro k hk
  rw [World.var?_cell gWidths hv0 k]
  have h0 := hel k hk
  rw [c3] at h0
  have hxk : (xs[k]?).map (·.1) = some (.lit (.int .i64 (pw k : Int))) := by
    rw [← List.getElem?_map, ← hx1.1]
    rcases lt9 hk with rfl | rfl | rfl | rfl | rfl | rfl | rfl | rfl | rfl <;> rfl
  cases hx : xs[k]? with
  | none => rw [hx] at hxk; cases hxk
  | some x =>
    rw [hx] at hxk h0
    obtain ⟨n, e1, e2, _⟩ := DataW.trod_int Tryz.underlying3 h0
    have hn : n = (pw k : Int) := by
      rw [e2] at hxk
      simpa using hxk
    subst hn
    have := drop_at e1
    simpa using this

theorem lt10 {i : Nat} (h : i < 10) : i = 0 ∨ i = 1 ∨ i = 2 ∨ i = 3 ∨ i = 4 ∨ i = 5 ∨ i = 6 ∨ i = 7 ∨ i = 8 ∨ i = 9 := by omega
/-- What the condition gives: the ten names. -/
theorem nm_of_laid {W : World} (h : laidMetH Tryz.prog laidL W) : NmAt W := by
  rw [MakeChecks.laidMetH_plain _ _ _ (by kernel_rfl)] at h
  obtain ⟨ps, ⟨_, _, _, _, _, _, _, _, _, _, ⟨g0, t0, cs0, f0, p0, q0, hg0, ht0, hv0, hd0, _, _⟩, _⟩, _⟩ := h
  obtain rfl := Option.some.inj (gNames.symm.trans hg0)
  obtain rfl := Option.some.inj (tNames.symm.trans ht0)
  obtain ⟨xs, m1, rfl, hx1, hlen, hn3, hel⟩ := DataW.trod_array Tryz.underlying130 hd0
  have c3 : Tryz.prog.cellsOf 9 = 1 := by kernel_rfl
  simp only [Prod.mk.injEq, Rows.laid_lockkeeper_reply_names, DataW.agg.injEq] at hx1
  intro k hk
  rw [World.var?_cell gNames hv0 k]
  have h0 := hel k hk
  rw [c3] at h0
  have hxk : (xs[k]?).map (·.1) = some (.lit (.string (nm k).data.toList)) := by
    rw [← List.getElem?_map, ← hx1.1]
    rcases lt10 hk with rfl | rfl | rfl | rfl | rfl | rfl | rfl | rfl | rfl | rfl <;> rfl
  cases hx : xs[k]? with
  | none => rw [hx] at hxk; cases hxk
  | some x =>
    rw [hx] at hxk h0
    obtain ⟨n, e1, e2, _⟩ := DataW.trod_string Tryz.underlying9 h0
    have hn : n = nm k := by
      rw [e2] at hxk
      have e3 : n.data.toList = (nm k).data.toList := by simpa using hxk
      have e4 : ofL (bl n) = ofL (bl (nm k)) := congrArg ofL e3
      rwa [ofL_bl, ofL_bl] at e4
    subst hn
    have := drop_at e1
    simpa using this
/-- What the listed variables hold. -/
def X27 (W : World) : Prop := NmAt W ∧ WdAt W
theorem x_of_laid {W : World} (h : laidMetH Tryz.prog laidL W) : X27 W := ⟨nm_of_laid h, wd_of_laid h⟩
theorem fdecodes_done : WalkX X27 3 Tryz.f3 := by
  intro W hX args hs hc
  rw [Tryz.params3] at hs hc
  obtain ⟨l⟩ := args
  match l, hs with
  | [v0], _ =>
    obtain ⟨s, rfl, _⟩ := came_string Tryz.underlying9 (hc 0 9 v0 rfl rfl)
    exact fdecodes_walk s W hX.1 hX.2
end Go.Proofs.YtobcjbpgeohbgaaGreatDoor
