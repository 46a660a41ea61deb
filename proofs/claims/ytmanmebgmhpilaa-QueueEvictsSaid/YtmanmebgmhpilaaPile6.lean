/-
  Layer 12 (pile): an id is let go of; how many; the one with an id; the first one.
-/
import Derived.Test.YtmanmebgmhpilaaPile5
namespace Go.Proofs.Ytmanmebgmhpilaa
open Go.RowKit Go.Maps
set_option linter.unusedVariables false
set_option linter.unusedSimpArgs false

theorem own_at {w w' : World} {base n size : Nat} {e : TypeId} {v : Value} {xs : List Value} (h : w.ownsRow base e size v n xs) (hb : ∀ g, base ≤ g → v.ownBlock = some g → w'.heap[g]? = w.heap[g]?) : w'.ownsRow base e size v n xs := by
  rcases h.2 with ⟨h1, h2⟩ | ⟨g, cap, cur, h1, h2, hg, h3⟩
  · exact ⟨h.1, .inl ⟨h1, h2⟩⟩
  · exact ⟨h.1, .inr ⟨g, cap, cur, h1, h2, (hb g h2 (by rw [h1]; rfl)).trans hg, h3⟩⟩
theorem PRaw.mapStep {w w' : World} {p M n : Nat} {most : Int} {tv : Value} {T : List It} {D D2 : Dat} (h : PRaw w p M most tv T D) (hg : w.grownBy w' (some M)) (hm : w'.ownsMap Try.prog 3 (plainElem Try.prog 3) M n D2) : PRaw w' p M most tv T D2 := by
  have ho := h.ord
  exact ⟨(hg.block p h.o.lt (by simp; omega)).trans h.o, own_sharp hm (Nat.le_refl _), own_at h.t (fun g h1 h2 => hg.block g (h.t.lt g h2).2 (by simp; omega)), ho, h.wf, h.len⟩
theorem PRaw.sl {w : World} {p M : Nat} {most : Int} {tv : Value} {T : List It} {D : Dat} (h : PRaw w p M most tv T D) : ∃ a c, tv = .slice a T.length c := by
  rcases h.t.2 with ⟨h1, h2⟩ | ⟨g, cap, cur, h1, _⟩
  · exact ⟨none, 0, by rw [h1, h2]⟩
  · exact ⟨_, _, h1⟩
theorem results_cell_tmp {fn : Func} {tmps : Array Value} {a k : Nat} {t : TypeId} {ad : Addr} {w : World} {v x : Value} (h : fn.results = #[.cell a t, .tmp k]) (ha : tmps.getD a undef = .pointer (some ad)) (hx : tmps.getD k undef = x) (hl : (loadVar t ad).run Try.prog w = .ok v w) : (results fn tmps).run Try.prog w = .ok (.tuple #[v, x]) w := by
  rw [Array.getD_eq_getD_getElem?] at ha hx
  simp [results, h, ha, asAddr, hl, hx]
theorem pgone_any {w : World} {p M : Nat} {most : Int} {tv : Value} {T : List It} {D : Dat} (id : Int) (h : PRaw w p M most tv T D) (hid : IdOk id) : Calls Try.prog 61 #[.pointer (some ⟨p, 0, none⟩), .int .i64 id] w fun e w' => e = .returned (.tuple #[]) ∧ PRaw w' p M most tv T (D.del (kL id)) ∧ Frp p M tv tv w w' := by
  have c0 : w.cell? ⟨p, 0, none⟩ = some (.map (some M)) := h.o.cell 0
  have HM := Lib.hid h
  have hk := id_key hid
  clear h
  go_enter Try.func61, Try.ntmps61
  go_wp2_with (at_delete; refine wpList_delete_own _ (by rfl) _ _ 54 3 (by rfl) 3 int_law Try.underlying54 _ M _ _ (by rfl) HM.out.m _ _ (by rfl) hk ?_; intro w1 hown1 hturn1; have hg1 := hturn1.grown; have H1 := Lib.hid (HM.out.mapStep hg1 hown1); have F1 := Lib.hid (show Frp p M tv tv w w1 from ⟨hg1.os, hg1.tape, hg1.output, hg1.size, fun k hk _ h2 _ => hg1.block k hk (by simp; exact h2), .inl rfl⟩); clear hown1 hturn1 hg1)
  first | go_end0 | (refine bodyPost_ret (results_none rfl _ _ _) rfl ?_)
  exact ⟨rfl, H1.out, F1.out⟩
theorem plen_nil (w : World) : Calls Try.prog 16 #[.pointer none] w fun e w' => e = .returned (.int .i64 0) ∧ w = w' := by
  go_enter Try.func16, Try.ntmps16
  go_wp2
  go_ret
  exact ⟨rfl, rfl⟩
theorem plen_any {w : World} {p M : Nat} {most : Int} {tv : Value} {T : List It} (h : PAt w p M most tv T) : Calls Try.prog 16 #[.pointer (some ⟨p, 0, none⟩)] w fun e w' => e = .returned (.int .i64 T.length) ∧ w = w' := by
  obtain ⟨D, hr, _⟩ := h.raw
  obtain ⟨a, c, rfl⟩ := hr.sl
  have c2 : w.cell? ⟨p, 2, none⟩ = some (.slice a T.length c) := hr.o.cell 2
  clear hr h
  go_enter Try.func16, Try.ntmps16
  go_wp2
  go_ret
  exact ⟨rfl, rfl⟩
theorem pwhere_in {w : World} {p M : Nat} {most : Int} {tv : Value} {T : List It} {k : Nat} (h : PAt w p M most tv T) (hk : k < T.length) : Calls Try.prog 48 #[.pointer (some ⟨p, 0, none⟩), .int .i64 (nth T k).id] w fun e w' => e = .returned (.tuple #[.int .i64 k, .bool true]) ∧ w = w' := by
  obtain ⟨D, hr, hx, _⟩ := h.raw
  refine (where_any _ hr (hr.wf _ (by rw [nth_lt T k hk]; exact List.getElem_mem hk))).mono ?_
  rintro e w' ⟨⟨c, hc, rfl⟩, rfl⟩
  rw [hx.at_ k hk] at hc
  have hck : (k : Int) = c := by injection hc with h1; injection h1
  refine ⟨?_, rfl⟩
  rw [← hck, hx.has, decide_eq_true (nth_mem hk)]
theorem pwhere_out {w : World} {p M : Nat} {most : Int} {tv : Value} {T : List It} {id : Int} (h : PAt w p M most tv T) (hid : IdOk id) (hn : id ∉ T.map It.id) : Calls Try.prog 48 #[.pointer (some ⟨p, 0, none⟩), .int .i64 id] w fun e w' => e = .returned (.tuple #[.int .i64 0, .bool false]) ∧ w = w' := by
  obtain ⟨D, hr, hx, _⟩ := h.raw
  refine (where_any _ hr hid).mono ?_
  rintro e w' ⟨⟨c, hc, rfl⟩, rfl⟩
  have hh : Maps.has D (kL id) = false := by rw [hx.has]; exact decide_eq_false hn
  rw [atKey_of_not_has hh] at hc
  have hck : (0 : Int) = c := by injection hc with h1; injection h1
  refine ⟨?_, rfl⟩
  rw [← hck, hh]
/-- No item. -/
def it0 : It := ⟨0, 0, 0, 0, 0, 0, 0⟩
set_option maxRecDepth 100000 in
theorem pget_nil (id : Int) (w : World) : Calls Try.prog 28 #[.pointer none, .int .i64 id] w fun e w' => e = .returned (.tuple #[.agg (itCells it0).toArray, .bool false]) ∧ Below w.heap.size w w' := by
  obtain ⟨H, hH⟩ : ∃ H, H = w.heap.size := ⟨_, rfl⟩
  have HH := Lib.hid hH
  have B0 := Lib.hid (show Below w.heap.size w (w.alloc (.cells #[.int .i64 0, .int .i64 0, .int .i64 0, .int .i64 0, .int .i64 0, .int .i64 0, .int .i64 0] 31)) from (Below.refl _ w).alloc (Nat.le_refl _) _)
  have O0 := Lib.hid (show IsObj (w.alloc (.cells #[.int .i64 0, .int .i64 0, .int .i64 0, .int .i64 0, .int .i64 0, .int .i64 0, .int .i64 0] 31)) H 31 [.int .i64 0, .int .i64 0, .int .i64 0, .int .i64 0, .int .i64 0, .int .i64 0, .int .i64 0] by rw [hH]; exact IsObj.new w _ [.int .i64 0, .int .i64 0, .int .i64 0, .int .i64 0, .int .i64 0, .int .i64 0, .int .i64 0])
  clear hH
  go_enter Try.func28, Try.ntmps28
  go_upto_region 1 with (fail)
  rw [← HH.out]
  generalize w.alloc (.cells #[.int .i64 0, .int .i64 0, .int .i64 0, .int .i64 0, .int .i64 0, .int .i64 0, .int .i64 0] 31) = w0 at *
  have RT := Lib.hid (show w0.there H 0 (itCells it0).toArray.size from IsObj.there O0.out 0 7 (by simp))
  have OF := Lib.hid (show IsObj (w0.setCells H 0 (itCells it0).toArray.toList) H 31 (itCells it0) from IsObj.setAll O0.out rfl)
  have BF := Lib.hid (show Only H w0 (w0.setCells H 0 (itCells it0).toArray.toList) from Only.setCells (b := H) (itCells it0) 0 (Only.refl H w0))
  go_wp2_with (refine wpList_store_mid (by rfl) 31 _ _ (by rfl) H 0 (itCells it0).toArray (by rfl) (by rfl) (by exact RT.out) (by kernel_rfl) (it_one _) ?_; generalize w0.setCells H 0 (itCells it0).toArray.toList = wf at *)
  have RL := run_loadVar_mid (P := Try.prog) wf H 0 31 (itCells it0) _ (IsObj.range OF.out) Try.underlying31 rfl (by kernel_rfl)
  refine bodyPost_ret (v := .tuple #[.agg (itCells it0).toArray, .bool false]) ?_ rfl ?_
  · exact results_cell_tmp (by rfl) (by rfl) (by rfl) RL
  · exact ⟨rfl, B0.out.trans (BF.out.below (by have := HH.out; omega) B0.out.size)⟩
set_option maxRecDepth 100000 in
theorem pget_out {w : World} {p M : Nat} {most : Int} {tv : Value} {T : List It} (id : Int) (h : PAt w p M most tv T) (hid : IdOk id) (hn : id ∉ T.map It.id) : Calls Try.prog 28 #[.pointer (some ⟨p, 0, none⟩), .int .i64 id] w fun e w' => e = .returned (.tuple #[.agg (itCells it0).toArray, .bool false]) ∧ Below w.heap.size w w' := by
  obtain ⟨H, hH⟩ : ∃ H, H = w.heap.size := ⟨_, rfl⟩
  have HH := Lib.hid hH
  have B0 := Lib.hid (show Below w.heap.size w (w.alloc (.cells #[.int .i64 0, .int .i64 0, .int .i64 0, .int .i64 0, .int .i64 0, .int .i64 0, .int .i64 0] 31)) from (Below.refl _ w).alloc (Nat.le_refl _) _)
  have O0 := Lib.hid (show IsObj (w.alloc (.cells #[.int .i64 0, .int .i64 0, .int .i64 0, .int .i64 0, .int .i64 0, .int .i64 0, .int .i64 0] 31)) H 31 [.int .i64 0, .int .i64 0, .int .i64 0, .int .i64 0, .int .i64 0, .int .i64 0, .int .i64 0] by rw [hH]; exact IsObj.new w _ [.int .i64 0, .int .i64 0, .int .i64 0, .int .i64 0, .int .i64 0, .int .i64 0, .int .i64 0])
  have KW := Lib.hid (pwhere_out (h.same B0.out) hid hn)
  clear h
  clear hH
  go_enter Try.func28, Try.ntmps28
  go_upto_region 1 with (fail)
  rw [← HH.out]
  generalize w.alloc (.cells #[.int .i64 0, .int .i64 0, .int .i64 0, .int .i64 0, .int .i64 0, .int .i64 0, .int .i64 0] 31) = w0 at *
  have RT := Lib.hid (show w0.there H 0 (itCells it0).toArray.size from IsObj.there O0.out 0 7 (by simp))
  have OF := Lib.hid (show IsObj (w0.setCells H 0 (itCells it0).toArray.toList) H 31 (itCells it0) from IsObj.setAll O0.out rfl)
  have BF := Lib.hid (show Only H w0 (w0.setCells H 0 (itCells it0).toArray.toList) from Only.setCells (b := H) (itCells it0) 0 (Only.refl H w0))
  go_wp2_with (first | (go_at_call 48; (with_reducible refine (KW.out).mono ?_); rintro e w' ⟨rfl, rfl⟩) | (refine wpList_store_mid (by rfl) 31 _ _ (by rfl) H 0 (itCells it0).toArray (by rfl) (by rfl) (by exact RT.out) (by kernel_rfl) (it_one _) ?_; generalize w0.setCells H 0 (itCells it0).toArray.toList = wf at *))
  have RL := run_loadVar_mid (P := Try.prog) wf H 0 31 (itCells it0) _ (IsObj.range OF.out) Try.underlying31 rfl (by kernel_rfl)
  refine bodyPost_ret (v := .tuple #[.agg (itCells it0).toArray, .bool false]) ?_ rfl ?_
  · exact results_cell_tmp (by rfl) (by rfl) (by rfl) RL
  · exact ⟨rfl, B0.out.trans (BF.out.below (by have := HH.out; omega) B0.out.size)⟩
set_option maxRecDepth 100000 in
theorem pget_in {w : World} {p M : Nat} {most : Int} {tv : Value} {T : List It} (k : Nat) (h : PAt w p M most tv T) (hk : k < T.length) : Calls Try.prog 28 #[.pointer (some ⟨p, 0, none⟩), .int .i64 (nth T k).id] w fun e w' => e = .returned (.tuple #[.agg (itCells (nth T k)).toArray, .bool true]) ∧ Below w.heap.size w w' := by
  obtain ⟨H, hH⟩ : ∃ H, H = w.heap.size := ⟨_, rfl⟩
  have HH := Lib.hid hH
  have B0 := Lib.hid (show Below w.heap.size w (w.alloc (.cells #[.int .i64 0, .int .i64 0, .int .i64 0, .int .i64 0, .int .i64 0, .int .i64 0, .int .i64 0] 31)) from (Below.refl _ w).alloc (Nat.le_refl _) _)
  have O0 := Lib.hid (show IsObj (w.alloc (.cells #[.int .i64 0, .int .i64 0, .int .i64 0, .int .i64 0, .int .i64 0, .int .i64 0, .int .i64 0] 31)) H 31 [.int .i64 0, .int .i64 0, .int .i64 0, .int .i64 0, .int .i64 0, .int .i64 0, .int .i64 0] by rw [hH]; exact IsObj.new w _ [.int .i64 0, .int .i64 0, .int .i64 0, .int .i64 0, .int .i64 0, .int .i64 0, .int .i64 0])
  have KW := Lib.hid (pwhere_in (h.same B0.out) hk)
  have H0 := Lib.hid (h.same B0.out)
  obtain ⟨g, cap, rfl, hg⟩ : ∃ g cap, tv = .slice (some ⟨g, 0, none⟩) T.length cap ∧ p + 1 ≤ g := by
    obtain ⟨D, hr, _⟩ := h.raw
    obtain ⟨g, cap, e, h1, _⟩ := hr.shape (by omega)
    exact ⟨g, cap, e, h1⟩
  have i3 : (k : Int) < (T.length : Int) := by omega
  clear h
  clear hH
  go_enter Try.func28, Try.ntmps28
  go_upto_region 1 with (fail)
  rw [← HH.out]
  generalize w.alloc (.cells #[.int .i64 0, .int .i64 0, .int .i64 0, .int .i64 0, .int .i64 0, .int .i64 0, .int .i64 0] 31) = w0 at *
  have c2 : w0.cell? ⟨p, 2, none⟩ = some (.slice (some ⟨g, 0, none⟩) T.length cap) := by
    obtain ⟨D, hr, _⟩ := H0.out.raw
    exact hr.o.cell 2
  have RI := Lib.hid (show w0.rangeAt g (k * 7) (itCells (nth T k)) by
    obtain ⟨D, hr, _⟩ := H0.out.raw
    exact own_range hr.t k hk)
  have RT := Lib.hid (show w0.there H 0 (itCells (nth T k)).toArray.size from IsObj.there O0.out 0 7 (by simp))
  have OF := Lib.hid (show IsObj (w0.setCells H 0 (itCells (nth T k)).toArray.toList) H 31 (itCells (nth T k)) from IsObj.setAll O0.out rfl)
  have BF := Lib.hid (show Only H w0 (w0.setCells H 0 (itCells (nth T k)).toArray.toList) from Only.setCells (b := H) (itCells (nth T k)) 0 (Only.refl H w0))
  go_wp2_with (first | (go_at_call 48; (with_reducible refine (KW.out).mono ?_); rintro e w' ⟨rfl, rfl⟩) | (refine wpList_load_mid (by rfl) 31 _ (by rfl) g (k * 7) (by rfl) (itCells (nth T k)) _ (by exact RI.out) Try.underlying31 rfl (by kernel_rfl) ?_) | (refine wpList_store_mid (by rfl) 31 _ _ (by rfl) H 0 (itCells (nth T k)).toArray (by rfl) (by rfl) (by exact RT.out) (by kernel_rfl) (it_one _) ?_; generalize w0.setCells H 0 (itCells (nth T k)).toArray.toList = wf at *))
  have RL := run_loadVar_mid (P := Try.prog) wf H 0 31 (itCells (nth T k)) _ (IsObj.range OF.out) Try.underlying31 rfl (by kernel_rfl)
  refine bodyPost_ret (v := .tuple #[.agg (itCells (nth T k)).toArray, .bool true]) ?_ rfl ?_
  · exact results_cell_tmp (by rfl) (by rfl) (by rfl) RL
  · exact ⟨rfl, B0.out.trans (BF.out.below (by have := HH.out; omega) B0.out.size)⟩
end Go.Proofs.Ytmanmebgmhpilaa
