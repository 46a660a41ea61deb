/-
  The document's row of items beside the pile's, in plain Lean.
-/
import Derived.Test.YtmanmebgmhpilaaRefF
import Derived.Test.YtmanmebgmhpilaaHeapC
namespace Go.Proofs.Ytmanmebgmhpilaa
open Go.RowKit Go.Sort
set_option linter.unusedVariables false

/-- X are T's items in their order. -/
structure Mir (T X : List It) : Prop where
  perm : X.Perm T
  sorted : SortedL (ltOf gI) X
theorem eqv_id {z u : It} (h : eqv (ltOf gI) z u = true) : z.id = u.id := by
  simp only [eqv, Bool.and_eq_true, Bool.not_eq_true'] at h
  have h1 : ¬ Ahead z u := fun k => by have := (befo_iff z u).2 k; rw [show befo z u = ltOf gI z u from rfl, h.1] at this; cases this
  have h2 : ¬ Ahead u z := fun k => by have := (befo_iff u z).2 k; rw [show befo u z = ltOf gI u z from rfl, h.2] at this; cases this
  unfold Ahead at *
  omega
theorem filter_short {l : List It} (hn : (l.map It.id).Nodup) (z : It) : (l.filter (eqv (ltOf gI) z)).length ≤ 1 := by
  induction l with
  | nil => simp
  | cons x l ih =>
    rw [List.map_cons, List.nodup_cons] at hn
    rw [List.filter_cons]
    split
    · rename_i hx
      have : l.filter (eqv (ltOf gI) z) = [] := by
        rw [List.filter_eq_nil_iff]
        intro u hu hzu
        exact hn.1 (by rw [← eqv_id hx, eqv_id hzu]; exact List.mem_map_of_mem hu)
      rw [this]; simp
    · exact ih hn.2
/-- Where no id stands twice the same items are the same row, sorted. -/
theorem same_of_perm {l l' : List It} (hp : l'.Perm l) (hn : (l.map It.id).Nodup) : SameL (ltOf gI) l l' := by
  intro z
  have h1 := filter_short hn z
  have h2 : (l'.filter (eqv (ltOf gI) z)).Perm (l.filter (eqv (ltOf gI) z)) := hp.filter _
  match hl : l.filter (eqv (ltOf gI) z), h1 with
  | [], _ => rw [hl] at h2; exact List.perm_nil.1 h2
  | [x], _ => rw [hl] at h2; exact List.perm_singleton.1 h2
  | x :: y :: r, h => simp at h
theorem Mir.len {T X : List It} (m : Mir T X) : X.length = T.length := m.perm.length_eq
theorem Mir.all {T X : List It} (m : Mir T X) (hn : (T.map It.id).Nodup) : ssort T = X := by
  obtain ⟨h1, h2⟩ := ssort_ok T
  exact sorted_one swo_gI _ _ h2 m.sorted (h1.symm.trans (same_of_perm m.perm hn))
theorem mir_nil : Mir [] [] := ⟨List.Perm.refl _, List.Pairwise.nil⟩
theorem rins_perm (x : It) (T : List It) : (rins x T).Perm (T ++ [x]) := by
  unfold rins
  refine List.perm_middle.trans ?_
  rw [List.take_append_drop]
  exact (List.perm_append_singleton x T).symm
theorem rsortN_perm (l : List It) : ∀ n, n ≤ l.length → (rsortN l n).Perm (l.take n) := by
  intro n
  induction n with
  | zero => intro _; simp [rsortN]
  | succ n ih =>
    intro hn
    rw [rsortN, take_nth l n (by omega)]
    exact (rins_perm _ _).trans ((ih (by omega)).append_right _)
theorem ssort_perm (l : List It) : (ssort l).Perm l := by
  have h := rsortN_perm l l.length (Nat.le_refl _)
  rw [rsort_eq, List.take_length] at h
  exact h
theorem nd_perm {T U : List It} (h : U.Perm T) (hn : (T.map It.id).Nodup) : (U.map It.id).Nodup := (perm_ids h).nodup_iff.2 hn
theorem mem_ids {T X : List It} (m : Mir T X) (id : Int) : id ∈ X.map It.id ↔ id ∈ T.map It.id := (perm_ids m.perm).mem_iff
theorem mem_one {T : List It} (hn : (T.map It.id).Nodup) {x : It} {k : Nat} (hk : k < T.length) (hx : x ∈ T) (h : x.id = (nth T k).id) : x = nth T k := by
  obtain ⟨i, hi, rfl⟩ := List.mem_iff_getElem.1 hx
  rw [← nth_lt T i hi] at h ⊢
  rw [nth_inj hn hi hk h]
theorem nth_in {X : List It} {j : Nat} (hj : j < X.length) : nth X j ∈ X := by rw [nth_lt X j hj]; exact List.getElem_mem hj
theorem Mir.head {T X : List It} (m : Mir T X) (hn : (T.map It.id).Nodup) (hh : Heap T) (h0 : 0 < T.length) : nth X 0 = nth T 0 := by
  have hx0 : 0 < X.length := by rw [m.len]; exact h0
  have hin : nth X 0 ∈ T := m.perm.mem_iff.1 (nth_in hx0)
  have hin2 : nth T 0 ∈ X := m.perm.mem_iff.2 (nth_in h0)
  refine mem_one hn h0 hin ?_
  have h1 : Le (nth T 0) (nth X 0) := by
    obtain ⟨i, hi, he⟩ := List.mem_iff_getElem.1 hin
    rw [← nth_lt T i hi] at he
    rw [← he]
    exact hh.min i hi
  have h2 : Le (nth X 0) (nth T 0) := by
    obtain ⟨i, hi, he⟩ := List.mem_iff_getElem.1 hin2
    have hs := List.pairwise_iff_getElem.1 m.sorted
    by_cases hi0 : i = 0
    · subst hi0; rw [← he, nth_lt X 0 hi]; exact le_refl _
    · have := hs 0 i hx0 hi (by omega)
      rw [← nth_lt X 0 hx0, he] at this
      exact befo_false.1 this
  unfold Le Ahead at h1 h2
  omega
theorem Mir.push {T X : List It} (m : Mir T X) (x : It) : Mir (upT (T ++ [x]) T.length) (ssort (X ++ [x])) := by
  refine ⟨(ssort_perm _).trans ((m.perm.append_right _).trans (upT_perm _ (T ++ [x]) T.length (Nat.le_refl _) (by simp)).symm), (ssort_ok _).2⟩
theorem Mir.out {T X : List It} (m : Mir T X) (hn : (T.map It.id).Nodup) {k j : Nat} (hk : k < T.length) (hj : j < X.length) (h : (nth X j).id = (nth T k).id) : nth X j = nth T k ∧ Mir (outT T k) (X.take j ++ X.drop (j + 1)) := by
  have he : nth X j = nth T k := mem_one hn hk (m.perm.mem_iff.1 (nth_in hj)) h
  refine ⟨he, ?_, ?_⟩
  · have h1 : ((X.take j ++ X.drop (j + 1)) ++ [nth T k]).Perm (outT T k ++ [nth T k]) := by
      refine List.Perm.trans ?_ (m.perm.trans (out_perm hk).symm)
      rw [← he]
      have e : X.take j ++ nth X j :: X.drop (j + 1) = X := by
        rw [nth_lt X j hj, ← List.drop_eq_getElem_cons hj, List.take_append_drop]
      conv => rhs; rw [← e]
      rw [List.append_assoc]
      exact (List.perm_append_singleton _ _).append_left _
    exact (List.perm_append_right_iff _).1 h1
  · refine List.Pairwise.sublist ?_ m.sorted
    conv => rhs; rw [← List.take_append_drop j X]
    exact List.Sublist.append (List.Sublist.refl _) (by rw [List.drop_eq_getElem_cons hj]; exact List.sublist_cons_self _ _)
theorem Mir.pop {T X : List It} (m : Mir T X) (hn : (T.map It.id).Nodup) (hh : Heap T) (h0 : 0 < T.length) : Mir (outT T 0) (X.drop 1) := by
  have h := (m.out hn h0 (show 0 < X.length by rw [m.len]; exact h0) (by rw [m.head hn hh h0])).2
  simpa using h
end Go.Proofs.Ytmanmebgmhpilaa
