/-
  The laid variable: what the condition gives, and the step of a law whose row lists it.
-/
import Derived.Test.YtgkmmoiniidhlaaDoorLaw25
import Derived.Test.YtgkmmoiniidhlaaDoorRows
import Derived.LaidMore
import Derived.OpenShut
import Derived.ProofKit
import Derived.Stop.Joined
namespace Go.Proofs.YtgkmmoiniidhlaaDoor
open Go.ChangeShapes Go.WideShapes Go.RowKit
set_option linter.unusedVariables false

/-- What the walk of such a law must show. -/
def WalkX (X : World → Prop) (F : FuncId) (fn : Func) : Prop :=
  ∀ (W : World), X W → ∀ (args : Array Value), args.size = fn.params.size → (∀ (j : Nat) (t : TypeId) (v : Value), fn.params[j]? = some t → args[j]? = some v → Came Tryd.prog W t v) →
    Calls Tryd.prog F args W fun e W' => e = .returned (.bool true) ∧ Below W.heap.size W W'

set_option maxRecDepth 100000 in
theorem law_stepX {X : World → Prop} {F : FuncId} {fn : Func} {s : ChangeSpec} {tb : TypeId} {H : Type} {enc : TypeId × Value → H}
    (hread : fn.params.toList.all (fun t => Tryd.prog.readableRec t && decide (t < Tryd.prog.types.size)) = true) (hres : fn.resultTypes = #[tb]) (hbool : Tryd.prog.underlying tb = some .bool) (hvars : s.vars = [])
    (hspec : ∀ ds : List (DataW H), ds.length = fn.params.size → s.fn H ds = { results := [.lit (.bool true)], args := ds }) (walk : WalkX X F fn)
    (W : World) (hX : X W) (base : Nat) (args : Array Value) (ds gs : List (DataW H)) (before : List MemPlace)
    (hval : ∀ (j : Nat) t v, fn.params[j]? = some t → args[j]? = some v → Value.okWide Tryd.prog W .any base t v)
    (hW : DataW.Whole enc Tryd.prog fn.params.toList s.vars false W args.toList ds gs before) :
    Calls Tryd.prog F args W fun e W' => ∃ v, e = .returned v ∧ s.post enc Tryd.prog fn false true false false W args v W' := by
  have hW' := hW
  obtain ⟨p, q, hA, hV, rfl, _, _⟩ := hW
  obtain ⟨hl1, hl2⟩ := trodAll_len _ _ _ _ hA
  rw [hvars] at hV
  have hgs : gs = [] ∧ q = [] := by
    cases gs with
    | nil => exact ⟨rfl, hV⟩
    | cons _ _ => exact hV.elim
  obtain ⟨rfl, rfl⟩ := hgs
  have hs := hspec (ds ++ []) (by simpa using hl2)
  refine (walk W hX args (by simpa using hl1) fun j t v ht hv => ?_).mono fun e W' ⟨he, hb⟩ => ?_
  · obtain ⟨d, p', hd⟩ := trodAll_at _ _ _ _ hA j t v (by simpa using ht) (by simpa using hv)
    exact ⟨⟨base, hval j t v ht hv⟩, H, enc, d, p', hd⟩
  · subst he
    refine ⟨_, rfl, ds, [], p ++ [], [], p, [], hW', ?_, ?_, ?_, hb.frame _, fun h => by cases h⟩
    · rw [hs, hres]
      exact trodAll_mk1 (shut_bool hbool _)
    · rw [hs]
      simpa using trodAll_stays laidOut hb _ _ _ _ hread hA
    · rw [hs, hvars]
      rfl


abbrev laidL : List (String × DataW Unit) := [("lockkeeper/reply.names", Rows.laid_lockkeeper_reply_names)]
theorem gNames : Tryd.prog.globalNamed "lockkeeper/reply.names" = some 0 := by kernel_rfl
theorem tNames : (Tryd.prog.globals[0]?).map (·.type) = some 52 := by kernel_rfl
theorem door_met (os : Os) (args : Array Value) : laidMetH Tryd.prog laidL ((World.doorLaid Tryd.prog 400 os).forCall (fun _ _ => 0) ⟨#[], args, []⟩).memory :=
  laidMetH_of_parts3 (fuel := 8) (laidMet_of_run' 8 (by kernel_rfl) (by kernel_rfl)) (by kernel_rfl) (by kernel_rfl)
theorem drop_at {l : List Value} {i : Nat} {v : Value} (h : (l.drop (i * 1)).take 1 = [v]) : l[i]? = some v := by
  rw [Nat.mul_one] at h
  have := congrArg (fun l => l[0]?) h
  simpa [List.getElem?_take, List.getElem?_drop] using this
/-- What the condition gives: the ten names. -/
theorem nm_of_laid {W : World} (h : laidMetH Tryd.prog laidL W) : NmAt W := by
  rw [MakeChecks.laidMetH_plain _ _ _ (by kernel_rfl)] at h
  obtain ⟨ps, ⟨g0, t0, cs0, f0, p0, q0, hg0, ht0, hv0, hd0, _, _⟩, _, _⟩ := h
  obtain rfl := Option.some.inj (gNames.symm.trans hg0)
  obtain rfl := Option.some.inj (tNames.symm.trans ht0)
  obtain ⟨xs, m1, rfl, hx1, hlen, hn3, hel⟩ := DataW.trod_array Tryd.underlying52 hd0
  have c3 : Tryd.prog.cellsOf 9 = 1 := by kernel_rfl
  simp only [Prod.mk.injEq, Rows.laid_lockkeeper_reply_names, DataW.agg.injEq] at hx1
  intro k hk
  rw [World.var?_cell gNames hv0 k]
  have h0 := hel k hk
  rw [c3] at h0
  have hxk : (xs[k]?).map (·.1) = some (.lit (.string (nm k).data.toList)) := by
    rw [← List.getElem?_map, ← hx1.1]
    rcases lt10 hk with rfl | rfl | rfl | rfl | rfl | rfl | rfl | rfl | rfl | rfl <;> rfl
  cases hx : xs[k]? with
  | none => rw [hx] at hxk; cases hxk
  | some x =>
    rw [hx] at hxk h0
    obtain ⟨n, e1, e2, _⟩ := DataW.trod_string Tryd.underlying9 h0
    have hn : n = nm k := by
      rw [e2] at hxk
      have e3 : n.data.toList = (nm k).data.toList := by simpa using hxk
      have e4 : ofL (bl n) = ofL (bl (nm k)) := congrArg ofL e3
      rwa [ofL_bl, ofL_bl] at e4
    subst hn
    have := drop_at e1
    simpa using this
theorem rpputs_done : WalkX NmAt 5 Tryd.f5 := by
  intro W hX args hs hc
  rw [Tryd.params5] at hs hc
  obtain ⟨l⟩ := args
  match l, hs with
  | [v0, v1], _ =>
    obtain ⟨x, rfl⟩ := came_rp (hc 0 24 v0 rfl rfl)
    obtain ⟨a, b, c, d, e, f, rfl⟩ := came_rq6 (hc 1 40 v1 rfl rfl)
    exact rpputs_walk x a b c d e f W hX
theorem rpgets_done : WalkX NmAt 3 Tryd.f3 := by
  intro W hX args hs hc
  rw [Tryd.params3] at hs hc
  obtain ⟨l⟩ := args
  match l, hs with
  | [v0, v1, v2], _ =>
    obtain ⟨s, rfl, _⟩ := came_string Tryd.underlying9 (hc 0 9 v0 rfl rfl)
    obtain ⟨n, rfl, _⟩ := came_int Tryd.underlying3 (hc 1 3 v1 rfl rfl)
    obtain ⟨m, rfl, _⟩ := came_string Tryd.underlying9 (hc 2 9 v2 rfl rfl)
    exact rpgets_walk s n m W hX
theorem rpback_done : WalkX NmAt 4 Tryd.f4 := by
  intro W hX args hs hc
  rw [Tryd.params4] at hs hc
  obtain ⟨l⟩ := args
  match l, hs with
  | [v0, v1], _ =>
    obtain ⟨x, rfl⟩ := came_rp (hc 0 24 v0 rfl rfl)
    obtain ⟨s, rfl, _⟩ := came_string Tryd.underlying9 (hc 1 9 v1 rfl rfl)
    exact rpback_walk x s W hX
end Go.Proofs.YtgkmmoiniidhlaaDoor
