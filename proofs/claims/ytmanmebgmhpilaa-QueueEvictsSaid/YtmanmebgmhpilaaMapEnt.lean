/-
  A store into a map in two steps (the entry first, then its value), on a map that the call makes.
-/
import Derived.Test.YtmanmebgmhpilaaPileD
namespace Go.Proofs.Ytmanmebgmhpilaa
open Go.RowKit Go.Maps Go.MapKept Go.ChangeMaps Go.WideShapes
open Go.WideElems (Fit rd rg pl rd_val elemAt)
set_option linter.unusedVariables false
set_option linter.unusedSimpArgs false

theorem setBlock_inj {w : World} {b : Nat} {es : Array MapEntry} {c : Nat} {x y : Obj} (hb : w.heap[b]? = some (.map es c)) (h : setBlock w b x = setBlock w b y) : x = y := by
  have h1 := heap_setBlock_same hb x
  rw [h, heap_setBlock_same hb y] at h1
  exact (Option.some.inj h1).symm
theorem find_push {es : Array MapEntry} {c : Nat} {e : MapEntry} (h : ∀ x ∈ es.toList, x.born < c) (he : e.born = c) : (es.push e).findIdx? (fun x => (x.born : Int) == (c : Int)) = some es.size := by
  have hn : es.findIdx? (fun x => (x.born : Int) == (c : Int)) = none := by
    rw [Array.findIdx?_eq_none_iff]
    intro x hx
    have := h x (by simpa using hx)
    simp
    omega
  rw [Array.findIdx?_push, hn]
  simp [he]
theorem find_at {es : Array MapEntry} {j : Nat} {e : MapEntry} (hn : (es.toList.map (·.born)).Nodup) (h : es[j]? = some e) : es.findIdx? (fun x => (x.born : Int) == (e.born : Int)) = some j := by
  obtain ⟨hj, hjj⟩ := Array.getElem?_eq_some_iff.1 h
  rw [Array.findIdx?_eq_some_iff_getElem]
  refine ⟨hj, by rw [hjj]; simp, fun i hi => ?_⟩
  have key := List.pairwise_iff_getElem.1 hn i j (by simp; omega) (by simpa using hj) hi
  rw [List.getElem_map, List.getElem_map] at key
  simp only [Array.getElem_toList] at key
  rw [hjj] at key
  simp
  omega
section
variable {H : Type} {P : Program} {k e t : TypeId} {R : Value → Option (DataW H × List MemPlace)} {w : World} {b n : Nat} {D : DataW H}
theorem own_entry (h : w.ownsMap P k R b n D) (K : Keyed P k) (ht : P.underlying t = some (.map k e)) {z : Value} (hz : (zeroValue e).run P w = .ok z w) (hn : n < maxLen) {key : Value} {kl : Lit} (hkey : keyOf P k key = some kl) :
    ∃ v st es1 clock1, (Instr.mapEntry t (.map (some b)) key).run P w = .ok (.tuple #[v, .int .i64 st]) (setBlock w b (.map es1 clock1)) ∧ w.heap[b]?.isSome = true ∧
      ∀ w2 : World, w2.heap[b]? = some (.map es1 clock1) → ∀ {val : Value} {d : DataW H} {ps : List MemPlace}, R val = some (d, ps) → ∃ w3, (Instr.entryStore t (.map (some b)) (.int .i64 st) val).run P w2 = .ok () w3 ∧ w3.ownsMap P k R b (n + 1) (D.put kl d) ∧ w2.grownBy w3 (some b) := by
  obtain ⟨es, clock, hb, F, hs, rfl⟩ := h
  have hroom : es.size < maxLen := Nat.lt_of_le_of_lt hs hn
  have fin : ∀ (es' : Array MapEntry) (clock' : Nat) (val : Value) (d : DataW H) (ps : List MemPlace), R val = some (d, ps) → (Instr.mapUpdate t (.map (some b)) key val).run P w = .ok () (setBlock w b (.map es' clock')) → ∀ w2 : World, (∃ es0 c0, w2.heap[b]? = some (.map es0 c0)) → (setBlock w2 b (.map es' clock')).ownsMap P k R b (n + 1) ((DataW.map ((es.toList.map (rg P k R)).foldr DataW.insert [])).put kl d) ∧ w2.grownBy (setBlock w2 b (.map es' clock')) (some b) := by
    intro es' clock' val d ps hv hr w2 ⟨es0, c0, hb2⟩
    obtain ⟨es'', clock'', hrun, F', hput, _⟩ := Maps.fit_store (R' := R) K ht hb F hroom (fun _ _ _ _ hz => hz) hkey hv
    rw [hr] at hrun
    have hinj := setBlock_inj hb (by injection hrun)
    injection hinj with h1 h2
    subst h1
    subst h2
    refine ⟨⟨es', clock', heap_setBlock_same hb2 _, F', ?_, by rw [DataW.put_eq, hput]⟩, ⟨rfl, rfl, rfl, by simp [setBlock], fun i _ hi => heap_setBlock_other hb2 _ (fun e => hi (by rw [e]))⟩⟩
    have e1 : es'.size = ((es'.toList.map (rg P k R)).foldr DataW.insert []).length := by rw [length_sorted]; simp
    rw [e1, hput]
    unfold putKey
    rw [length_insert]
    have e2 := List.length_filter_le (notKey kl) ((es.toList.map (rg P k R)).foldr DataW.insert [])
    rw [length_sorted] at e2
    simp at e2
    omega
  rcases K.find w hkey es.toList F.keys with ⟨h1, h2⟩ | ⟨j, e0, h1, h2, h3⟩
  · refine ⟨z, clock, es.push ⟨key, z, clock⟩, clock + 1, ?_, by rw [hb]; rfl, ?_⟩
    · simp [Instr.mapEntry, run_underlying ht, MapKept.run_getObj_map hb, K.check w false hkey, h1, hz, MapKept.run_setObj_map _ hb, Result.andThen, setBlock, goInt]
    · intro w2 hb2 val d ps hv
      have hr : (Instr.mapUpdate t (.map (some b)) key val).run P w = .ok () (setBlock w b (.map (es.push ⟨key, val, clock⟩) (clock + 1))) := by
        simp [Instr.mapUpdate, run_underlying ht, MapKept.run_getObj_map hb, K.check w false hkey, h1, MapKept.run_setObj_map _ hb, Result.andThen, setBlock]
      have hk := fin _ _ val d ps hv hr w2 ⟨_, _, hb2⟩
      refine ⟨_, ?_, hk⟩
      have hf := find_push (es := es) (e := ⟨key, z, clock⟩) (c := clock) (F.stamped.1) rfl
      have hm : (es.push ⟨key, z, clock⟩).modify es.size (fun e => { e with val := val }) = es.push ⟨key, val, clock⟩ := by
        apply Array.ext
        · simp
        · intro i hi1 hi2
          simp only [Array.getElem_modify, Array.getElem_push]
          simp at hi2
          by_cases hi : i < es.size
          · simp [hi, show es.size ≠ i by omega]
          · simp [show es.size = i by omega]
      simp [Instr.entryStore, MapKept.run_getObj_map hb2, asInt, asIntOf, hf, hm, MapKept.run_setObj_map _ hb2, Result.andThen, setBlock]
  · have hj : es[j]? = some e0 := by simpa using h2
    obtain ⟨hjl, hjj⟩ := Array.getElem?_eq_some_iff.1 hj
    have hid : es.modify j (fun e' => { e' with key := key }) = es := by
      apply Array.ext
      · simp
      · intro i hi1 hi2
        simp only [Array.getElem_modify]
        split
        · next hji =>
          subst hji
          rw [hjj, ← h3]
        · rfl
    refine ⟨e0.val, e0.born, es, clock, ?_, by rw [hb]; rfl, ?_⟩
    · simp [Instr.mapEntry, run_underlying ht, MapKept.run_getObj_map hb, K.check w false hkey, h1, hj, h3, K.stays w hkey, hid, MapKept.run_setObj_map _ hb, Result.andThen, setBlock, goInt]
    · intro w2 hb2 val d ps hv
      have hr : (Instr.mapUpdate t (.map (some b)) key val).run P w = .ok () (setBlock w b (.map (es.modify j (fun e' => { e' with key := key, val := val })) clock)) := by
        simp [Instr.mapUpdate, run_underlying ht, MapKept.run_getObj_map hb, K.check w false hkey, h1, hj, h3, K.stays w hkey, MapKept.run_setObj_map _ hb, Result.andThen, setBlock]
      have hk := fin _ _ val d ps hv hr w2 ⟨_, _, hb2⟩
      refine ⟨_, ?_, hk⟩
      have hf := find_at F.stamped.2.1 hj
      have hm : es.modify j (fun e' => { e' with val := val }) = es.modify j (fun e' => { e' with key := key, val := val }) := by
        apply Array.ext
        · simp
        · intro i hi1 hi2
          simp only [Array.getElem_modify]
          split
          · next hji =>
            subst hji
            rw [hjj, ← h3]
          · rfl
      simp [Instr.entryStore, MapKept.run_getObj_map hb2, asInt, asIntOf, hf, hm, MapKept.run_setObj_map _ hb2, Result.andThen, setBlock]
end
end Go.Proofs.Ytmanmebgmhpilaa
