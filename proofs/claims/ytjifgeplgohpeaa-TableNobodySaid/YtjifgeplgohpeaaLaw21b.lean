/-
  The statement TableNobody of layer 21 (table). No condition.
-/
import Derived.Test.YtjifgeplgohpeaaLaw21
import Derived.Deep.MidRow
namespace Go.Proofs.Ytjifgeplgohpeaa
open Go.RowKit
set_option linter.unusedVariables false

def oddL : List Value := .bool false :: .int .i64 0 :: allL (fun _ => entCells 0 none)
/-- Block b is a table that nobody made. -/
def OddTb (w : World) (b : Nat) : Prop := IsObj w b 49 oddL
theorem OddTb.drewN {w : World} {b : Nat} (h : OddTb w b) (n : Nat) : OddTb (w.drewN n) b := h
theorem OddTb.alloc {w : World} {b : Nat} (h : OddTb w b) (o : Obj) : OddTb (w.alloc o) b := IsObj.alloc h o
theorem OddTb.same {w w' : World} {b : Nat} (h : OddTb w b) (hb : Below w.heap.size w w') : OddTb w' b := IsObj.below h hb h.lt
theorem OddTb.ext {w : World} {b : Nat} (h : OddTb w b) (u : Later w) : OddTb (ext w u) b := h.same u.below

theorem hsz_trans {a b c : World} (h : Below a.heap.size a b) (k : Below b.heap.size b c) : Below a.heap.size a c := h.trans (k.mono h.size)
theorem has_odd (b : Nat) (to : Int) (w : World) (h : OddTb w b) : Calls Try.prog 73 #[.pointer (some ⟨b, 0, none⟩), .int .i64 to] w fun e w' => e = .returned (.bool false) ∧ w = w' := by
  have c0 : w.cell? ⟨b, 0, none⟩ = some (.bool false) := IsObj.cell h 0
  clear h
  go_enter Try.func73, Try.ntmps73
  go_wp2
  go_ret
  exact ⟨rfl, rfl⟩
theorem learn_odd (b : Nat) (to th ep now : Int) (w : World) (h : OddTb w b) :
    Calls Try.prog 18 #[.pointer (some ⟨b, 0, none⟩), .int .i64 to, .int .i64 th, .int .i64 ep, .int .i64 now] w fun e w' => e = .returned (.bool false) ∧ w = w' := by
  have H := Lib.hid h
  clear h
  go_enter Try.func18, Try.ntmps18
  go_wp2_with (first | (go_at_call 73; (with_reducible refine (has_odd _ _ _ H.out).mono ?_); rintro e w' ⟨rfl, rfl⟩))
  go_ret
  exact ⟨rfl, rfl⟩
theorem get_odd (b : Nat) (to now : Int) (w : World) (h : OddTb w b) : Calls Try.prog 21 #[.pointer (some ⟨b, 0, none⟩), .int .i64 to, .int .i64 now] w fun e w' => e = .returned (.tuple #[.agg #[.int .i64 0, .int .i64 0, .int .i64 0, .int .i64 0], .bool false]) ∧ Below w.heap.size w w' := by
  have H := Lib.hid (h.alloc (.cells #[.int .i64 0, .int .i64 0, .int .i64 0, .int .i64 0] 36))
  clear h
  go_enter Try.func21, Try.ntmps21
  go_wp2_with fail
  go_quiet ((first | (go_at_call 73; first | (with_reducible exact quiet_left (has_odd _ _ _ (H.out.drewN _))) | (with_reducible exact quiet_add_left (has_odd _ _ _ (H.out.drewN _))))))
  go_wp2
  go_returns
  exact ⟨rfl, ((((below_drewN ((Below.refl _ _).alloc (Nat.le_refl _) _) _).setCell (Nat.le_refl _) _).setCell (Nat.le_refl _) _).setCell (Nat.le_refl _) _).setCell (Nat.le_refl _) _⟩
theorem cuts_odd (b : Nat) (to n now : Int) (w : World) (h : OddTb w b) : Calls Try.prog 25 #[.pointer (some ⟨b, 0, none⟩), .int .i64 to, .int .i64 n, .int .i64 now] w fun e w' => e = .returned (.bool false) ∧ Below w.heap.size w w' := by
  have H := Lib.hid h
  clear h
  go_enter Try.func25, Try.ntmps25
  go_wp2_with (go_at_call 21; (with_reducible refine (get_odd _ _ _ _ H.out).mono ?_); rintro e w' ⟨rfl, hx⟩; obtain ⟨ux, rfl⟩ := ext_of hx; clear hx)
  go_ret
  exact ⟨rfl, ux.below.alloc (ext_size ux) _⟩
theorem tbclear_nil (w : World) : Calls Try.prog 19 #[.pointer none] w fun e w' => e = .returned (.tuple #[]) ∧ w = w' := by
  go_enter Try.func19, Try.ntmps19
  go_wp2
  go_end0
  exact ⟨rfl, rfl⟩
theorem IsObj.there {w : World} {b : Nat} {ty : TypeId} {cs : List Value} (h : IsObj w b ty cs) (o n : Nat) (hn : o + n ≤ cs.length) : w.there b o n := by
  intro j hj
  refine ⟨?_, IsObj.free h _⟩
  rw [IsObj.cell h]
  simp; omega
theorem IsObj.setCells {b : Nat} {ty : TypeId} (vs : List Value) : ∀ (o : Nat) {w : World} {cs : List Value}, IsObj w b ty cs → o + vs.length ≤ cs.length → IsObj (w.setCells b o vs) b ty (cs.take o ++ vs ++ cs.drop (o + vs.length)) := by
  induction vs with
  | nil => intro o w cs h hl; simpa [World.setCells] using h
  | cons v vs ih =>
    intro o w cs h hl
    have h1 := ih (o + 1) (h.set o v) (by simp at hl ⊢; omega)
    have e : (cs.set o v).take (o + 1) ++ vs ++ (cs.set o v).drop (o + 1 + vs.length) = cs.take o ++ (v :: vs) ++ cs.drop (o + (v :: vs).length) := by
      simp only [List.length_cons] at hl ⊢
      rw [List.drop_set_of_lt (by omega), List.take_set, List.take_succ_eq_append_getElem (by omega), List.set_append_right _ _ (by simp; omega)]
      simp [Nat.min_eq_left (show o ≤ cs.length by omega)]
      congr 1
      omega
    rw [e] at h1
    exact h1
theorem Only.setCells {b : Nat} (vs : List Value) : ∀ (o : Nat) {u w : World}, Only b u w → Only b u (w.setCells b o vs) := by
  induction vs with
  | nil => intro o u w h; exact h
  | cons v vs ih => intro o u w h; exact ih (o + 1) (h.setCell (.inl rfl) v)

set_option maxRecDepth 100000 in
theorem tbclear_odd (b : Nat) (w : World) (h : OddTb w b) : Calls Try.prog 19 #[.pointer (some ⟨b, 0, none⟩)] w fun e w' => e = .returned (.tuple #[]) ∧ OddTb w' b ∧ Only b w w' := by
  have ht : w.there b 2 (allL (fun _ => entCells 0 none)).toArray.size := IsObj.there h 2 40 (by decide)
  have h2 := IsObj.setCells (allL (fun _ => entCells 0 none)) 2 h (by decide)
  have h3 := Only.setCells (b := b) (allL (fun _ => entCells 0 none)) 2 (Only.refl b w)
  have HT := Lib.hid ht
  have H2 := Lib.hid h2
  have H3 := Lib.hid h3
  clear h2 h3 h ht
  go_enter Try.func19, Try.ntmps19
  go_wp2_with (refine wpList_store_mid (by rfl) 47 _ _ (by rfl) b 2 (allL (fun _ => entCells 0 none)).toArray (by rfl) (by rfl) HT.out (by kernel_rfl) (by kernel_rfl) ?_)
  go_end0
  exact ⟨rfl, H2.out, H3.out⟩
theorem all_nil (now : Int) (w : World) : Calls Try.prog 24 #[.pointer none, .int .i64 now] w fun e w' => e = .returned (.slice none 0 0) ∧ Below w.heap.size w w' := by
  go_enter Try.func24, Try.ntmps24
  go_wp2_with fail
  go_loopw [5, 6, 9] (fun o q i wr => ∃ k : Int, 0 ≤ k ∧ k ≤ 8 ∧ i = .int .i64 k ∧ o = .slice none 0 0 ∧ Below w.heap.size w wr) (fun _ _ i _ => (8 - intOf i).toNat)
  case atStart => exact ⟨0, by omega, by omega, rfl, rfl, Below.refl _ _⟩
  case round =>
    obtain ⟨k, k0, k8, rfl, rfl, hb⟩ := hrel
    have HB := Lib.hid hb
    have hsz := hb.size
    clear hb
    by_cases hlt : k < 8
    · go_wp2_with (go_at_call 21; (with_reducible refine (get_nil _ _ _).mono ?_); rintro e w' ⟨rfl, hx⟩; obtain ⟨ux, rfl⟩ := ext_of hx; clear hx)
      go_roundw
      case rel => exact ⟨k + 1, by omega, by omega, rfl, rfl, (below_ext _ HB.out hsz).alloc (by have := ext_size ux; omega) _⟩
      case measure => simp [intOf]; omega
    · go_wp2
      go_ret
      exact ⟨rfl, HB.out⟩
theorem all_odd (b : Nat) (now : Int) (w : World) (h : OddTb w b) : Calls Try.prog 24 #[.pointer (some ⟨b, 0, none⟩), .int .i64 now] w fun e w' => e = .returned (.slice none 0 0) ∧ Below w.heap.size w w' := by
  have H := Lib.hid h
  clear h
  go_enter Try.func24, Try.ntmps24
  go_wp2_with fail
  go_loopw [5, 6, 9] (fun o q i wr => ∃ k : Int, 0 ≤ k ∧ k ≤ 8 ∧ i = .int .i64 k ∧ o = .slice none 0 0 ∧ Below w.heap.size w wr) (fun _ _ i _ => (8 - intOf i).toNat)
  case atStart => exact ⟨0, by omega, by omega, rfl, rfl, Below.refl _ _⟩
  case round =>
    obtain ⟨k, k0, k8, rfl, rfl, hb⟩ := hrel
    have HB := Lib.hid hb
    have HR := Lib.hid (H.out.same hb)
    have hsz := hb.size
    clear hb
    by_cases hlt : k < 8
    · go_wp2_with (go_at_call 21; (with_reducible refine (get_odd _ _ _ _ HR.out).mono ?_); rintro e w' ⟨rfl, hx⟩; obtain ⟨ux, rfl⟩ := ext_of hx; clear hx)
      go_roundw
      case rel => exact ⟨k + 1, by omega, by omega, rfl, rfl, (below_ext _ HB.out hsz).alloc (by have := ext_size ux; omega) _⟩
      case measure => simp [intOf]; omega
    · go_wp2
      go_ret
      exact ⟨rfl, HB.out⟩

set_option maxRecDepth 100000 in
set_option maxHeartbeats 4000000 in
theorem tnobody_walk (a : TAct) (w : World) : Calls Try.prog 4 #[.agg #[.int .i64 a.kind, .int .i64 a.to, .int .i64 a.th, .int .i64 a.ep, .int .i64 a.now, .int .i64 a.lev]] w fun e w' => e = .returned (.bool true) ∧ Below w.heap.size w w' := by
  go_enter Try.func4, Try.ntmps4
  go_wp2_with ((go_at_call 19; (with_reducible refine (tbclear_nil _).mono ?_); rintro e w' ⟨rfl, rfl⟩))
  have hO : OddTb ((w.alloc (.cells #[.int .i64 a.kind, .int .i64 a.to, .int .i64 a.th, .int .i64 a.ep, .int .i64 a.now, .int .i64 a.lev] 30)).alloc (.cells oddL.toArray 49)) (w.heap.size + 1) := by
    have := IsObj.new (w.alloc (.cells #[.int .i64 a.kind, .int .i64 a.to, .int .i64 a.th, .int .i64 a.ep, .int .i64 a.now, .int .i64 a.lev] 30)) 49 oddL
    have h2 : (w.alloc (.cells #[.int .i64 a.kind, .int .i64 a.to, .int .i64 a.th, .int .i64 a.ep, .int .i64 a.now, .int .i64 a.lev] 30)).heap.size = w.heap.size + 1 := by simp
    rw [h2] at this
    exact this
  have hbx : ∀ j, ((w.alloc (.cells #[.int .i64 a.kind, .int .i64 a.to, .int .i64 a.th, .int .i64 a.ep, .int .i64 a.now, .int .i64 a.lev] 30)).alloc (.cells oddL.toArray 49)).cell? ⟨w.heap.size, j, none⟩ = (tactCells a)[j]? := by
    intro j
    go_simp
    rfl
  have hB : Below w.heap.size w ((w.alloc (.cells #[.int .i64 a.kind, .int .i64 a.to, .int .i64 a.th, .int .i64 a.ep, .int .i64 a.now, .int .i64 a.lev] 30)).alloc (.cells oddL.toArray 49)) := ((Below.refl _ _).alloc (Nat.le_refl _) _).alloc (by simp) _
  refine (tbclear_odd _ _ hO).mono ?_
  rintro e W ⟨rfl, hO2, hW⟩
  have b0 := hW.keep (hbx 0) (by simp)
  have b1 := hW.keep (hbx 1) (by simp)
  have b2 := hW.keep (hbx 2) (by simp)
  have b3 := hW.keep (hbx 3) (by simp)
  have b4 := hW.keep (hbx 4) (by simp)
  have b5 := hW.keep (hbx 5) (by simp)
  have bl := cell_lt b0
  simp only at bl
  have hBW := hB.trans (hW.below (by omega) (by simp; omega))
  have H := Lib.hid hO2
  have HB := Lib.hid hBW
  have hsz := hBW.size
  clear hO hbx hB hO2 hW hBW
  go_wp2_with fail
  go_quiet ((first | (go_at_call 18; first | (with_reducible exact quiet_left (learn_nil _ _ _ _ _)) | (with_reducible exact quiet_add_left (learn_nil _ _ _ _ _))) | (go_at_call 18; first | (with_reducible exact quiet_left (learn_odd _ _ _ _ _ _ (H.out.drewN _))) | (with_reducible exact quiet_add_left (learn_odd _ _ _ _ _ _ (H.out.drewN _))))))
  go_wp2_with fail
  refine (get_nil _ _ _).mono ?_
  rintro e w3 ⟨rfl, hb3⟩
  have hb3a := hb3.alloc hb3.size (.cells #[.int .i64 0, .int .i64 0, .int .i64 0, .int .i64 0] 36)
  have d1 := cell_keep (W := W.drewN nq) hb3a b1
  have d4 := cell_keep (W := W.drewN nq) hb3a b4
  have d5 := cell_keep (W := W.drewN nq) hb3a b5
  have H3 := Lib.hid (OddTb.same (H.out.drewN nq) hb3a)
  have HB3 := Lib.hid (hsz_trans (below_drewN HB.out nq) hb3a)
  clear hb3 hb3a b0 b1 b2 b3 b4 b5 bl HB H hsz
  go_wp2_with fail
  obtain ⟨W3, hW3⟩ : ∃ W3, W3 = w3.alloc (.cells #[.int .i64 0, .int .i64 0, .int .i64 0, .int .i64 0] 36) := ⟨_, rfl⟩
  rw [← hW3] at d1 d4 d5 H3 HB3 ⊢
  clear hW3
  refine (get_odd _ _ _ _ H3.out).mono ?_
  rintro e w4 ⟨rfl, hb4⟩
  have hb4a := hb4.alloc hb4.size (.cells #[.int .i64 0, .int .i64 0, .int .i64 0, .int .i64 0] 36)
  have b1 := cell_keep hb4a d1
  have b4 := cell_keep hb4a d4
  have b5 := cell_keep hb4a d5
  have H4 := Lib.hid (OddTb.same H3.out hb4a)
  have HB4 := Lib.hid (hsz_trans HB3.out hb4a)
  clear hb4 hb4a d1 d4 d5 HB3 H3
  go_wp2_with fail
  obtain ⟨W4, hW4⟩ : ∃ W4, W4 = w4.alloc (.cells #[.int .i64 0, .int .i64 0, .int .i64 0, .int .i64 0] 36) := ⟨_, rfl⟩
  rw [← hW4] at b1 b4 b5 H4 HB4 ⊢
  clear hW4
  have bl := cell_lt b1
  have hsz := HB4.out.size
  simp only at bl
  ((first | (with_reducible refine region_ext2 (by kernel_rfl) (by kernel_rfl) ?_) | (refine region_ext (by kernel_rfl) (by kernel_rfl) ?_)); (repeat ((with_reducible refine wpQuiet_step (fun K hK => ?_)); go_simp; (first | ((refine hK _ ?_); clear hK K) | ((apply Exists.intro); (refine ⟨fun _ => ?_, hK _ ?_⟩); (first | (go_at_call 25; with_reducible exact ext_below (cuts_nil _ _ _ _)) | (go_at_call 25; with_reducible exact ext_below (cuts_odd _ _ _ _ _ (H4.out.ext _))) | (go_at_call 24; with_reducible exact ext_below (all_nil _ _)) | (go_at_call 24; with_reducible exact ext_below (all_odd _ _ _ (H4.out.ext _))) | (go_at_call 15; with_reducible exact ext_below (awake21 _))); clear hK K)))); refine wpQuiet_nil ?_; rintro _ ⟨uq, rfl⟩)
  go_wp2
  go_ret
  exact ⟨rfl, below_ext _ HB4.out hsz⟩

theorem tnobody_done : Walk 4 Try.f4 := by
  intro W args hs hc
  rw [Try.params4] at hs hc
  obtain ⟨l⟩ := args
  match l, hs with
  | [v0], _ =>
    obtain ⟨l0, rfl, f0⟩ := came_struct Try.underlying30 opens_tact (hc 0 30 v0 rfl rfl)
    obtain ⟨x, rfl, _⟩ := tact_of l0 f0
    exact tnobody_walk x W
end Go.Proofs.Ytjifgeplgohpeaa
