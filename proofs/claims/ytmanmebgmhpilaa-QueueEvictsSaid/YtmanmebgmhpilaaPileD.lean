/-
  Layer 12 (pile): where each id stands: the map's datum and the array, in plain Lean.
-/
import Derived.Test.YtmanmebgmhpilaaRank
import Derived.Maps.OwnSet
import Derived.Maps.OwnOps
namespace Go.Proofs.Ytmanmebgmhpilaa
open Go.RowKit Go.Maps
set_option linter.unusedVariables false
set_option linter.unusedSimpArgs false

/-- What is known of ids. -/
abbrev Dat := DataW Unit
abbrev kL (id : Int) : Lit := .int .i64 id
abbrev vL (k : Int) : Dat := .lit (.int .i64 k)
theorem kL_key (id : Int) : WideAt.IsKeyLit (kL id) := trivial
theorem kL_ne {a b : Int} (h : a ≠ b) : kL a ≠ kL b := fun e => h (by injection e)
/-- Each id stands where the map says. -/
structure Idx (D : Dat) (T : List It) : Prop where
  im : IsMap D
  has : ∀ id : Int, Maps.has D (kL id) = decide (id ∈ T.map It.id)
  at_ : ∀ k : Nat, k < T.length → D.atKey (kL (nth T k).id) (vL 0) = vL k
theorem idx_empty : Idx (.map []) [] := ⟨⟨_, rfl⟩, fun id => by simp [Maps.has], fun k h => by simp at h⟩
theorem nth_mem {T : List It} {k : Nat} (h : k < T.length) : (nth T k).id ∈ T.map It.id := by
  rw [nth_lt T k h]
  exact List.mem_map_of_mem (List.getElem_mem h)
theorem mem_nth {T : List It} {id : Int} (h : id ∈ T.map It.id) : ∃ k, k < T.length ∧ (nth T k).id = id := by
  obtain ⟨x, hx, rfl⟩ := List.mem_map.1 h
  obtain ⟨k, hk, rfl⟩ := List.getElem_of_mem hx
  exact ⟨k, hk, by rw [nth_lt T k hk]⟩
theorem nth_inj {T : List It} (hn : (T.map It.id).Nodup) {i k : Nat} (hi : i < T.length) (hk : k < T.length) (h : (nth T i).id = (nth T k).id) : i = k := by
  rw [nth_lt T i hi, nth_lt T k hk] at h
  have key := List.pairwise_iff_getElem.1 hn
  rcases Nat.lt_trichotomy i k with hlt | heq | hlt
  · exact absurd (by rw [List.getElem_map, List.getElem_map]; exact h) (key i k (by simpa using hi) (by simpa using hk) hlt)
  · exact heq
  · exact absurd (by rw [List.getElem_map, List.getElem_map]; exact h.symm) (key k i (by simpa using hk) (by simpa using hi) hlt)
theorem nth_set {T : List It} {i k : Nat} {x : It} (hk : k < T.length) : nth (T.set i x) k = if i = k then x else nth T k := by
  rw [nth_lt _ k (by simpa using hk), List.getElem_set, nth_lt T k hk]
theorem nth_app_old {T : List It} {x : It} {k : Nat} (hk : k < T.length) : nth (T ++ [x]) k = nth T k := by
  rw [nth_lt _ k (by simp; omega), nth_lt T k hk, List.getElem_append_left hk]
theorem nth_app_new {T : List It} {x : It} : nth (T ++ [x]) T.length = x := by
  rw [nth_lt _ _ (by simp)]
  simp
/-- One more behind all. -/
theorem Idx.push {D : Dat} {T : List It} (h : Idx D T) (x : It) (hx : x.id ∉ T.map It.id) : Idx (D.put (kL x.id) (vL T.length)) (T ++ [x]) := by
  refine ⟨h.im.put _ _, fun id => ?_, fun k hk => ?_⟩
  · by_cases e : id = x.id
    · subst e
      rw [has_put_same h.im (kL_key _)]
      simp
    · rw [has_put_other (kL_ne e), h.has, Bool.eq_iff_iff]
      simp [e]
  · rw [List.length_append, List.length_singleton] at hk
    by_cases hl : k < T.length
    · rw [nth_app_old hl, atKey_put_other (kL_ne (fun (e : (nth T k).id = x.id) => hx (by rw [← e]; exact nth_mem hl))), h.at_ k hl]
    · obtain rfl : k = T.length := by omega
      rw [nth_app_new, atKey_put_same h.im (kL_key _)]
/-- Two change places. -/
def swapT (T : List It) (i k : Nat) : List It := (T.set i (nth T k)).set k (nth T i)
theorem swapT_len (T : List It) (i k : Nat) : (swapT T i k).length = T.length := by simp [swapT]
theorem nth_swapT {T : List It} {i k j : Nat} (hi : i < T.length) (hk : k < T.length) (hj : j < T.length) : nth (swapT T i k) j = if k = j then nth T i else if i = j then nth T k else nth T j := by
  unfold swapT
  rw [nth_set (by simpa using hj)]
  split
  · rfl
  · rw [nth_set hj]
theorem swapT_perm {T : List It} {i k : Nat} (hi : i < T.length) (hk : k < T.length) : (swapT T i k).Perm T := by
  unfold swapT
  rw [nth_lt T i hi, nth_lt T k hk]
  exact List.set_set_perm hi hk
theorem perm_ids {T U : List It} (h : T.Perm U) : (T.map It.id).Perm (U.map It.id) := h.map _
theorem Idx.swap {D : Dat} {T : List It} (h : Idx D T) (hn : (T.map It.id).Nodup) {i k : Nat} (hi : i < T.length) (hk : k < T.length) : Idx ((D.put (kL (nth T k).id) (vL i)).put (kL (nth T i).id) (vL k)) (swapT T i k) := by
  have hp := perm_ids (swapT_perm hi hk)
  refine ⟨(h.im.put _ _).put _ _, fun id => ?_, fun j hj => ?_⟩
  · have hm : decide (id ∈ (swapT T i k).map It.id) = decide (id ∈ T.map It.id) := by
      rw [Bool.eq_iff_iff]
      simp only [decide_eq_true_eq]
      exact hp.mem_iff
    rw [hm]
    by_cases e1 : id = (nth T i).id
    · subst e1
      rw [has_put_same (h.im.put _ _) (kL_key _)]
      exact (decide_eq_true (nth_mem hi)).symm
    · rw [has_put_other (kL_ne e1)]
      by_cases e2 : id = (nth T k).id
      · subst e2
        rw [has_put_same h.im (kL_key _)]
        exact (decide_eq_true (nth_mem hk)).symm
      · rw [has_put_other (kL_ne e2)]
        exact h.has id
  · rw [swapT_len] at hj
    rw [nth_swapT hi hk hj]
    by_cases e1 : k = j
    · subst e1
      rw [if_pos rfl, atKey_put_same (h.im.put _ _) (kL_key _)]
    · rw [if_neg e1]
      by_cases e2 : i = j
      · subst e2
        rw [if_pos rfl, atKey_put_other (kL_ne (fun e => e1 (nth_inj hn hk hi e))), atKey_put_same h.im (kL_key _)]
      · rw [if_neg e2, atKey_put_other (kL_ne (fun e => e2 (nth_inj hn hj hi e).symm)), atKey_put_other (kL_ne (fun e => e1 (nth_inj hn hj hk e).symm)), h.at_ j hj]
/-- The last one goes. -/
theorem Idx.pop {D : Dat} {T : List It} {x : It} (h : Idx D (T ++ [x])) (hn : ((T ++ [x]).map It.id).Nodup) : Idx (D.del (kL x.id)) T := by
  have hx : x.id ∉ T.map It.id := by
    rw [List.map_append, List.nodup_append] at hn
    intro hm
    exact hn.2.2 _ hm _ (by simp) rfl
  refine ⟨h.im.del _, fun id => ?_, fun k hk => ?_⟩
  · by_cases e : id = x.id
    · subst e
      rw [has_del_same]
      exact (decide_eq_false hx).symm
    · rw [has_del_other (kL_ne e), h.has, Bool.eq_iff_iff]
      simp [e]
  · have h1 := h.at_ k (by simp; omega)
    rw [nth_app_old hk] at h1
    rw [atKey_del_other (kL_ne (fun (e : (nth T k).id = x.id) => hx (by rw [← e]; exact nth_mem hk))), h1]
/-- How many the map holds. -/
theorem own_sharp {w : World} {P : Program} {k : TypeId} {R : Value → Option (Dat × List MemPlace)} {b n m : Nat} {D : Dat} (h : w.ownsMap P k R b n D) (hm : Maps.size D ≤ m) : w.ownsMap P k R b m D := by
  obtain ⟨es, clock, hb, F, hs, rfl⟩ := h
  exact ⟨es, clock, hb, F, by simpa [Maps.size, length_sorted] using hm, rfl⟩
theorem size_put_in {D : Dat} {id : Int} {v : Dat} (ht : Tidy D) (h : Maps.has D (kL id) = true) : Maps.size (D.put (kL id) v) = Maps.size D := by rw [size_put ht, h]; rfl
theorem size_put_le {D : Dat} {id : Int} {v : Dat} (ht : Tidy D) : Maps.size (D.put (kL id) v) ≤ Maps.size D + 1 := by rw [size_put ht]; split <;> omega
theorem size_del_in {D : Dat} {id : Int} (ht : Tidy D) (h : Maps.has D (kL id) = true) : Maps.size (D.del (kL id)) + 1 = Maps.size D := by
  have := size_del (k := kL id) ht
  rw [h] at this
  simpa using this
end Go.Proofs.Ytmanmebgmhpilaa
