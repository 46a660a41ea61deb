/-
  The statement PilePlays of layer 12 (pile): 'same' of a pile and its row.
-/
import Derived.Test.YtmanmebgmhpilaaPl
namespace Go.Proofs.Ytmanmebgmhpilaa
open Go.RowKit
set_option linter.unusedVariables false

theorem same_pl {w wr : World} {p M : Nat} {most : Int} {tv : Value} {T X : List It} {ax : Option Addr} {cx : Nat} (id : Int) (hid : IdOk id) (h : PlAt w wr p M most tv T X ax cx) :
    Calls Try.prog 26 #[.pointer (some ⟨p, 0, none⟩), .slice ax X.length cx, .int .i64 id] wr fun e w' => e = .returned (.bool true) ∧ Below wr.heap.size wr w' := by
  have hlen := h.m.len
  have h64 := h.len
  have hmem := mem_ids h.m id
  by_cases hX : X = []
  · subst hX
    have hT : T = [] := List.eq_nil_of_length_eq_zero (by rw [← hlen]; rfl)
    subst hT
    refine same_none _ ax cx id wr h.r.row rfl (fun w' hb => ppeek_empty (h.h.same hb)) (fun w' hb => pget_out id (h.h.same hb) hid (by simp)) (fun w' hb => plen_any (h.h.same hb)) (fun w' hb => (pall_empty (h.h.same hb)).mono fun e w2 ⟨he, hw⟩ => ⟨none, 0, he, .inl rfl, by rw [hw]; exact Below.refl _ _⟩)
  · have h0 : 0 < X.length := List.length_pos_iff.2 hX
    have hT0 : 0 < T.length := by omega
    have hhead := h.m.head h.h.nd h.hp hT0
    have hpeek : ∀ w', Below wr.heap.size wr w' → Calls Try.prog 44 #[.pointer (some ⟨p, 0, none⟩)] w' fun e w2 => e = .returned (.tuple #[.agg (itCells (nth X 0)).toArray, .bool true]) ∧ Below w'.heap.size w' w2 := fun w' hb => by
      rw [hhead]; exact ppeek_any (h.h.same hb) hT0
    have hl : ∀ w', Below wr.heap.size wr w' → Calls Try.prog 16 #[.pointer (some ⟨p, 0, none⟩)] w' fun e w2 => e = .returned (.int .i64 X.length) ∧ w' = w2 := fun w' hb => by
      rw [hlen]; exact plen_any (h.h.same hb)
    have hall : ∀ w', Below wr.heap.size wr w' → Calls Try.prog 27 #[.pointer (some ⟨p, 0, none⟩)] w' fun e w2 => ∃ a2 c2, e = .returned (.slice a2 X.length c2) ∧ RowOf itCells 7 w2 a2 X ∧ Below w'.heap.size w' w2 := fun w' hb => by
      refine (pall_any (h.h.same hb) hT0).mono ?_
      rintro e w2 ⟨g, cap, he, ho, hb2⟩
      rw [h.m.all h.h.nd] at ho
      refine ⟨_, cap, by rw [hlen]; exact he, ?_, hb2⟩
      exact .inr ⟨g, 0, rfl, own_rowOf0 ho rfl⟩
    rcases fnd_law X id with ⟨hk, hn⟩ | ⟨j, hj, hk, hjid, _⟩
    · have hn' : id ∉ T.map It.id := fun hm => hn (hmem.2 hm)
      exact same_out _ X (nth X 0) ax cx id wr h.r.row h64 h0 rfl hk hpeek (fun w' hb => pget_out id (h.h.same hb) hid hn') hl hall
    · have hin : id ∈ X.map It.id := by rw [← hjid]; exact nth_mem hj
      obtain ⟨k, hkT, hkid⟩ := mem_nth (hmem.1 hin)
      have he := (h.m.out h.h.nd hkT hj (by rw [hjid, hkid])).1
      refine same_in _ X (nth X 0) (nth X j) ax cx id wr h.r.row h64 h0 rfl j hj rfl hk hpeek (fun w' hb => ?_) hl hall
      rw [he, ← hkid]
      exact pget_in k (h.h.same hb) hkT
end Go.Proofs.Ytmanmebgmhpilaa
