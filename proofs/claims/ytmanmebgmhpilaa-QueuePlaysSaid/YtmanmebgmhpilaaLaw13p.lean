/-
  The statement QueuePlays of layer 13 (queue). No condition.
-/
import Derived.Test.YtmanmebgmhpilaaQp
import Derived.Deep.CutBlock
import Derived.Deep.CutRange
namespace Go.Proofs.Ytmanmebgmhpilaa
open Go.RowKit
set_option linter.unusedVariables false
set_option linter.unusedSimpArgs false

theorem below_go {w W W1 : World} (h : Below w.heap.size w W) (hb : Below W.heap.size W W1) : Below w.heap.size w W1 := h.trans (hb.mono h.size)

/-- What the document's Add answers, and the row behind it. -/
def AddsTo (ax : Option Addr) (cx : Nat) (X : List It) (most : Int) (x : It) (X1 : List It) (y : It) (g : Bool) (f : Int) : Prop :=
  ∀ W, RowOf itCells 7 W ax X → Calls Try.prog 38 #[.slice ax X.length cx, .int .i64 most, itV x] W fun e w' => ∃ v, e = .returned (.tuple #[v, .agg (itCells y).toArray, .bool g, .int .i64 f]) ∧ ((v = .slice ax X.length cx ∧ X1 = X) ∨ w'.ownsRow W.heap.size 31 7 v X1.length (X1.flatMap itCells)) ∧ Below W.heap.size W w'
theorem adds_twice (ax : Option Addr) (cx : Nat) (X : List It) (most : Int) (x : It) (h64 : X.length ≤ 64) (hin : x.id ∈ X.map It.id) : AddsTo ax cx X most x X it0 false 8 := fun W hr =>
  (radd_twice ax cx X most x W h64 hr hin).mono (by rintro e w' ⟨rfl, b⟩; exact ⟨_, rfl, .inl ⟨rfl, rfl⟩, b⟩)
theorem adds_ok (ax : Option Addr) (cx : Nat) (X : List It) (most : Int) (x : It) (h64 : X.length ≤ 64) (hin : x.id ∉ X.map It.id) (hroom : (X.length : Int) + 1 ≤ most) : AddsTo ax cx X most x (ssort (X ++ [x])) it0 false 0 := fun W hr => by
  have K := radd_ok ax cx X most x W h64 hr hin hroom
  refine K.mono ?_
  rintro e w' ⟨v, rfl, ho, b⟩
  exact ⟨_, rfl, .inr (by first | exact ho | (simpa [ssort_len] using ho)), b⟩
theorem adds_evict (ax : Option Addr) (cx : Nat) (X : List It) (most : Int) (x : It) (h64 : X.length ≤ 64) (kv : Nat) (hin : x.id ∉ X.map It.id) (h1 : most < (X.length : Int) + 1) (hkv : vict (X ++ [x]) (X.length + 1) = kv) (hlt : kv < X.length + 1) : AddsTo ax cx X most x (ssort ((X ++ [x]).take kv ++ (X ++ [x]).drop (kv + 1))) (nth (X ++ [x]) kv) true 0 := fun W hr => by
  have K := radd_evict ax cx X most x W h64 hr kv hin (by omega) hkv (by omega)
  refine K.mono ?_
  rintro e w' ⟨v, rfl, ho, b⟩
  have hl : (ssort ((X ++ [x]).take kv ++ (X ++ [x]).drop (kv + 1))).length = X.length := by
    rw [ssort_len, List.length_append, List.length_take, List.length_drop, List.length_append, List.length_singleton]
    omega
  exact ⟨_, rfl, .inr (by rw [hl]; exact ho), b⟩
/-- The statement of the body that bears a block's number. -/
def findBlk (n : Nat) : Code → Option Code
  | .block k c => if k = n then some (.block k c) else findBlk n c
  | .seq a b => match findBlk n a with
    | some c => some c
    | none => findBlk n b
  | .loop c => findBlk n c
  | .scope c => findBlk n c
  | .cond _ a b => match findBlk n a with
    | some c => some c
    | none => findBlk n b
  | _ => none
noncomputable def qpBlk : Code := (Try.f8.body.bind (findBlk 2)).getD .skip
set_option maxRecDepth 100000 in
set_option maxHeartbeats 16000000 in
theorem qp_acts {w w1 : World} {q p M A b off c i : Nat} {most now k : Int} {x : It} {T X : List It} {ax : Option Addr} {cx : Nat} {tv : Value} {l : List Ad} {u4 u10 u11 u12 u13 u14 u15 u16 u17 u18 u19 u20 u21 u22 u23 u24 u25 u54 u55 u62 u63 u64 u65 u66 u67 u68 u69 u70 u71 u72 u73 u74 u75 u76 u77 u78 u79 u80 u81 u82 u83 u84 u85 u86 u87 u88 u89 u90 u91 u92 u93 u94 u95 u96 u97 u98 u99 u100 u101 u102 u103 u104 u105 u106 u107 u108 u109 u110 u111 u112 u113 u114 u115 u116 u117 u118 u119 u120 u121 u122 u123 u124 u125 u126 u127 u128 u129 u130 u131 u132 u133 u134 u135 u136 u137 u138 u139 u140 u141 u142 u143 u144 u145 u146 u147 u148 u149 u150 u151 u152 u153 u154 u155 u156 u157 u158 u159 u160 u161 u162 u163 u164 u165 u166 u167 u168 u169 u170 u171 u172 u173 u174 u175 u176 u177 u178 u179 u180 u181 u182 u183 u184 u185 u186 u187 u188 u189 u190 u191 u192 u193 u194 u195 u196 u197 : Value}
    (h0 : 1 ≤ most) (h64m : most ≤ 64) (hx : IdOk x.id) (P1 : Hid (QlAt w w1 q p M most tv T X ax cx)) (VA1 : Hid (IsObj w1 A 66 (adCells ⟨k, now, x⟩))) (YA : Hid (A ≠ p ∧ A ≠ M ∧ some A ≠ tv.ownBlock))
    {J K' : Act → World → Prop} {Q' : Exit → Act → World → Prop} (hJ : ∀ (a' : Act) (w' : World), (∃ u4 u7 u10 u11 u12 u13 u14 u15 u16 u17 u18 u19 u20 u21 u22 u23 u24 u25 u50 u51 u52 u53 u54 u55 u56 u57 u58 u59 u60 u61 u62 u63 u64 u65 u66 u67 u68 u69 u70 u71 u72 u73 u74 u75 u76 u77 u78 u79 u80 u81 u82 u83 u84 u85 u86 u87 u88 u89 u90 u91 u92 u93 u94 u95 u96 u97 u98 u99 u100 u101 u102 u103 u104 u105 u106 u107 u108 u109 u110 u111 u112 u113 u114 u115 u116 u117 u118 u119 u120 u121 u122 u123 u124 u125 u126 u127 u128 u129 u130 u131 u132 u133 u134 u135 u136 u137 u138 u139 u140 u141 u142 u143 u144 u145 u146 u147 u148 u149 u150 u151 u152 u153 u154 u155 u156 u157 u158 u159 u160 u161 u162 u163 u164 u165 u166 u167 u168 u169 u170 u171 u172 u173 u174 u175 u176 u177 u178 u179 u180 u181 u182 u183 u184 u185 u186 u187 u188 u189 u190 u191 u192 u193 u194 u195 u196 u197, (∃ T X ax cx tv, u7 = Value.slice ax X.length cx ∧ Aside (QlAt w w' q p M most tv T X ax cx ∧ IsObj w' A 66 (adCells { k := k, now := now, x := x }) ∧ A ≠ p ∧ A ≠ M ∧ some A ≠ tv.ownBlock)) ∧ a' = { tmps := #[Value.int IntKind.i64 most, Value.slice (some { block := b, off := off }) l.length c, undef, undef, u4, Value.pointer (some { block := q, off := 0 }), Value.int IntKind.i64 0, u7, Value.int IntKind.i64 ↑i, Value.pointer (some { block := A, off := 0 }), u10, u11, u12, u13, u14, u15, u16, u17, u18, u19, u20, u21, u22, u23, u24, u25, Value.slice (some { block := b, off := off }) l.length c, Value.int IntKind.i64 ↑l.length, Value.bool false, undef, Value.tuple #[Value.pointer (some { block := q, off := 0 }), Value.int IntKind.i64 0], Value.int IntKind.i64 most, Value.tuple #[Value.pointer (some { block := q, off := 0 }), Value.int IntKind.i64 0], Value.pointer (some { block := q, off := 0 }), Value.int IntKind.i64 0, Value.int IntKind.i64 most, Value.bool false, Value.bool false, Value.int IntKind.i64 most, Value.bool false, Value.bool false, undef, undef, undef, undef, undef, undef, undef, undef, undef, u50, u51, u52, u53, u54, u55, u56, u57, u58, u59, u60, u61, u62, u63, u64, u65, u66, u67, u68, u69, u70, u71, u72, u73, u74, u75, u76, u77, u78, u79, u80, u81, u82, u83, u84, u85, u86, u87, u88, u89, u90, u91, u92, u93, u94, u95, u96, u97, u98, u99, u100, u101, u102, u103, u104, u105, u106, u107, u108, u109, u110, u111, u112, u113, u114, u115, u116, u117, u118, u119, u120, u121, u122, u123, u124, u125, u126, u127, u128, u129, u130, u131, u132, u133, u134, u135, u136, u137, u138, u139, u140, u141, u142, u143, u144, u145, u146, u147, u148, u149, u150, u151, u152, u153, u154, u155, u156, u157, u158, u159, u160, u161, u162, u163, u164, u165, u166, u167, u168, u169, u170, u171, u172, u173, u174, u175, u176, u177, u178, u179, u180, u181, u182, u183, u184, u185, u186, u187, u188, u189, u190, u191, u192, u193, u194, u195, u196, u197, undef, undef, undef, undef, undef], defers := [] }) → J a' w') (hK : ∀ a' w', Met J a' w' → K' a' w') :
    Code.wp Try.prog qpBlk (Exit.then K' Q') ⟨#[Value.int IntKind.i64 most, Value.slice (some { block := b, off := off }) l.length c, undef, undef, u4, Value.pointer (some { block := q, off := 0 }), Value.int IntKind.i64 0, Value.slice ax X.length cx, Value.int IntKind.i64 ↑i, Value.pointer (some { block := A, off := 0 }), u10, u11, u12, u13, u14, u15, u16, u17, u18, u19, u20, u21, u22, u23, u24, u25, Value.slice (some { block := b, off := off }) l.length c, Value.int IntKind.i64 ↑l.length, Value.bool false, undef, Value.tuple #[Value.pointer (some { block := q, off := 0 }), Value.int IntKind.i64 0], Value.int IntKind.i64 most, Value.tuple #[Value.pointer (some { block := q, off := 0 }), Value.int IntKind.i64 0], Value.pointer (some { block := q, off := 0 }), Value.int IntKind.i64 0, Value.int IntKind.i64 most, Value.bool false, Value.bool false, Value.int IntKind.i64 most, Value.bool false, Value.bool false, undef, undef, undef, undef, undef, undef, undef, undef, undef, Value.int IntKind.i64 ↑i, Value.slice (some { block := b, off := off }) l.length c, Value.int IntKind.i64 ↑l.length, Value.bool true, u54, u55, Value.slice (some { block := b, off := off }) l.length c, Value.int IntKind.i64 ↑i, Value.pointer (some { block := b, off := off + i * 9 }), Value.agg #[Value.int IntKind.i64 k, Value.int IntKind.i64 now, Value.int IntKind.i64 x.id, Value.int IntKind.i64 x.lev, Value.int IntKind.i64 x.frm, Value.int IntKind.i64 x.dl, Value.int IntKind.i64 x.bud, Value.int IntKind.i64 x.since, Value.int IntKind.i64 x.seq], Value.pointer (some { block := A, off := 0 }), Value.int IntKind.i64 k, u62, u63, u64, u65, u66, u67, u68, u69, u70, u71, u72, u73, u74, u75, u76, u77, u78, u79, u80, u81, u82, u83, u84, u85, u86, u87, u88, u89, u90, u91, u92, u93, u94, u95, u96, u97, u98, u99, u100, u101, u102, u103, u104, u105, u106, u107, u108, u109, u110, u111, u112, u113, u114, u115, u116, u117, u118, u119, u120, u121, u122, u123, u124, u125, u126, u127, u128, u129, u130, u131, u132, u133, u134, u135, u136, u137, u138, u139, u140, u141, u142, u143, u144, u145, u146, u147, u148, u149, u150, u151, u152, u153, u154, u155, u156, u157, u158, u159, u160, u161, u162, u163, u164, u165, u166, u167, u168, u169, u170, u171, u172, u173, u174, u175, u176, u177, u178, u179, u180, u181, u182, u183, u184, u185, u186, u187, u188, u189, u190, u191, u192, u193, u194, u195, u196, u197, undef, undef, undef, undef, undef], []⟩ w1 := by
  conv => arg 2; whnf
  by_cases k0 : k = 0
  · subst k0
    go_upto_region 13 with (fail)
    go_cut [10, 11, 12] from 50 to 197 (fun s10 s11 s12 wx => ∃ (T1 X1 : List It) (tv1 : Value) (Y : Nat) (y : It) (g : Bool) (f : Int), s10 = .pointer (some ⟨Y, 0, none⟩) ∧ s11 = .bool g ∧ s12 = .int .i64 f ∧ Aside (QAt wx q p M most tv1 T1 ∧ Heap T1 ∧ Mir T1 X1 ∧ RowX wx p M tv1 ax cx X ∧ Below w.heap.size w wx ∧ (T1.length : Int) ≤ most ∧ IsObj wx A 66 (adCells ⟨0, now, x⟩) ∧ A ≠ p ∧ A ≠ M ∧ some A ≠ tv1.ownBlock) ∧ Aside (IsObj wx Y 31 (itCells y)) ∧ Hid (AddsTo ax cx X most x X1 y g f))
    case first =>
      have hmem := mem_ids P1.out.m x.id
      have HLEN := Lib.hid P1.out.m.len
      have h64 := P1.out.len
      have v2 : w1.cell? ⟨A, 2, none⟩ = some (.int .i64 x.id) := VA1.out.cell 2
      have v3 : w1.cell? ⟨A, 3, none⟩ = some (.int .i64 x.lev) := VA1.out.cell 3
      have v4 : w1.cell? ⟨A, 4, none⟩ = some (.int .i64 x.frm) := VA1.out.cell 4
      have v5 : w1.cell? ⟨A, 5, none⟩ = some (.int .i64 x.dl) := VA1.out.cell 5
      have v6 : w1.cell? ⟨A, 6, none⟩ = some (.int .i64 x.bud) := VA1.out.cell 6
      have v7 : w1.cell? ⟨A, 7, none⟩ = some (.int .i64 x.since) := VA1.out.cell 7
      have v8 : w1.cell? ⟨A, 8, none⟩ = some (.int .i64 x.seq) := VA1.out.cell 8
      by_cases hin : x.id ∈ X.map It.id
      · obtain ⟨j, hjT, hjid0⟩ := mem_nth (hmem.1 hin)
        have HJ := Lib.hid hjid0
        have HK := Lib.hid (adds_twice ax cx X most x h64 hin)
        clear hjid0 hmem
        go_wp2_with fail
        refine (qadd_twice x j P1.out.Q hjT HJ.out).mono ?_
        rintro e w2 ⟨rfl, b2⟩
        have P2 := Lib.hid (P1.out.same b2)
        have VA2 := Lib.hid (IsObj.below VA1.out b2 VA1.out.lt)
        clear P1 VA1
        clear v2 v3 v4 v5 v6 v7 v8
        clear b2
        have hNV := newvar w2 (itCells it0) [.int .i64 0, .int .i64 0, .int .i64 0, .int .i64 0, .int .i64 0, .int .i64 0, .int .i64 0] 31 rfl
        obtain ⟨Y, hY⟩ : ∃ Y, Y = w2.heap.size := ⟨_, rfl⟩
        have HY := Lib.hid hY
        have TH := Lib.hid hNV.1
        have BN := Lib.hid hNV.2.2
        have VY := Lib.hid (show IsObj ((w2.alloc (.cells #[.int .i64 0, .int .i64 0, .int .i64 0, .int .i64 0, .int .i64 0, .int .i64 0, .int .i64 0] 31)).setCells w2.heap.size 0 (itCells it0).toArray.toList) Y 31 (itCells it0) by rw [hY]; exact hNV.2.1)
        clear hNV hY
        go_upto_region 14 with (refine wpList_store_mid (by rfl) 31 _ _ (by rfl) w2.heap.size 0 (itCells it0).toArray (by rfl) (by rfl) (by exact TH.out) (by kernel_rfl) (it_one _) ?_; generalize (w2.alloc (.cells #[.int .i64 0, .int .i64 0, .int .i64 0, .int .i64 0, .int .i64 0, .int .i64 0, .int .i64 0] 31)).setCells w2.heap.size 0 (itCells it0).toArray.toList = w3 at *)
        rw [← HY.out]
        clear TH
        have P3 := Lib.hid (P2.out.same BN.out)
        have VA3 := Lib.hid (IsObj.below VA2.out BN.out VA2.out.lt)
        clear P2 VA2
        clear BN
        go_meet
        case rel => exact ⟨T, X, tv, Y, it0, false, 8, rfl, rfl, rfl, ⟨P3.out.Q, P3.out.hp, P3.out.m, P3.out.r, P3.out.B, P3.out.lm, VA3.out, YA.out⟩, VY.out, HK.out⟩
      · have hnT : x.id ∉ T.map It.id := fun hm => hin (hmem.2 hm)
        clear hmem
        by_cases hfull : most ≤ (X.length : Int)
        · have hmq : most = (T.length : Int) := by have h1 := P1.out.lm; have h2 := HLEN.out; omega
          have hvl := vict_lt' X x
          by_cases hkeep : vict (X ++ [x]) (X.length + 1) = X.length
          · obtain ⟨hk1, hk2⟩ := vict_keep hkeep
            have hss := ssort_of P1.out.m
            have hK := adds_evict ax cx X most x h64 X.length hin (by omega) hkeep (by omega)
            rw [hk1, hk2, hss] at hK
            have HK := Lib.hid hK
            have hAll : ∀ w', Below w1.heap.size w1 w' → Calls Try.prog 27 #[.pointer (some ⟨p, 0, none⟩)] w' fun e w2 => ∃ v, e = .returned v ∧ w2.ownsRow w'.heap.size 31 7 v X.length (X.flatMap itCells) ∧ Below w'.heap.size w' w2 := fun w' hb => by
              have h1 := pall_own (P1.out.Q.h.same hb)
              rw [P1.out.m.all P1.out.Q.h.nd] at h1
              exact h1
            have KQ := qadd_keep _ _ x X w1 P1.out.Q.items (fun w' hb => ppush_full x (P1.out.Q.h.same hb) hx hnT (by omega)) hAll h64 hkeep
            clear hk1 hk2 hss hAll hkeep hvl hmq hK
            go_wp2_with fail
            refine KQ.mono ?_
            rintro e w2 ⟨rfl, b2⟩
            have P2 := Lib.hid (P1.out.same b2)
            have VA2 := Lib.hid (IsObj.below VA1.out b2 VA1.out.lt)
            clear P1 VA1
            clear v2 v3 v4 v5 v6 v7 v8
            clear b2 KQ
            have hNV := newvar w2 (itCells x) [.int .i64 0, .int .i64 0, .int .i64 0, .int .i64 0, .int .i64 0, .int .i64 0, .int .i64 0] 31 rfl
            obtain ⟨Y, hY⟩ : ∃ Y, Y = w2.heap.size := ⟨_, rfl⟩
            have HY := Lib.hid hY
            have TH := Lib.hid hNV.1
            have BN := Lib.hid hNV.2.2
            have VY := Lib.hid (show IsObj ((w2.alloc (.cells #[.int .i64 0, .int .i64 0, .int .i64 0, .int .i64 0, .int .i64 0, .int .i64 0, .int .i64 0] 31)).setCells w2.heap.size 0 (itCells x).toArray.toList) Y 31 (itCells x) by rw [hY]; exact hNV.2.1)
            clear hNV hY
            go_upto_region 14 with (refine wpList_store_mid (by rfl) 31 _ _ (by rfl) w2.heap.size 0 (itCells x).toArray (by rfl) (by rfl) (by exact TH.out) (by kernel_rfl) (it_one _) ?_; generalize (w2.alloc (.cells #[.int .i64 0, .int .i64 0, .int .i64 0, .int .i64 0, .int .i64 0, .int .i64 0, .int .i64 0] 31)).setCells w2.heap.size 0 (itCells x).toArray.toList = w3 at *)
            rw [← HY.out]
            clear TH
            have P3 := Lib.hid (P2.out.same BN.out)
            have VA3 := Lib.hid (IsObj.below VA2.out BN.out VA2.out.lt)
            clear P2 VA2
            clear BN
            go_meet
            case rel => exact ⟨T, X, tv, Y, x, true, 0, rfl, rfl, rfl, ⟨P3.out.Q, P3.out.hp, P3.out.m, P3.out.r, P3.out.B, P3.out.lm, VA3.out, YA.out⟩, VY.out, HK.out⟩
          · obtain ⟨kv, hkv⟩ : ∃ kv, vict (X ++ [x]) (X.length + 1) = kv := ⟨_, rfl⟩
            have hkX : kv < X.length := by omega
            obtain ⟨he1, he2⟩ := vict_evict (x := x) hkX
            obtain ⟨j, hjT, hjid⟩ := mem_nth ((mem_ids P1.out.m (nth X kv).id).1 (nth_mem hkX))
            obtain ⟨heq, hM2⟩ := P1.out.m.out P1.out.Q.h.nd hjT hkX hjid.symm
            have KQ := qadd_evict x X kv j P1.out.Q (P1.out.m.all P1.out.Q.h.nd) hx hnT hmq hkv hkX hjT heq.symm
            have hK := adds_evict ax cx X most x h64 kv hin (by omega) hkv (by omega)
            rw [he1, he2] at hK
            have HK := Lib.hid hK
            have HM2 := Lib.hid (hM2.push x)
            have HMQ := Lib.hid hmq
            clear he1 he2 heq hM2 hjid hkeep hvl hkv hK hmq
            go_wp2_with fail
            refine KQ.mono ?_
            rintro e w2 ⟨rfl, tv2, h2, f2⟩
            have VA2 := Lib.hid (f2.isObj VA1.out YA.out.1 YA.out.2.1 YA.out.2.2)
            have YA2 := Lib.hid (SeAt.far f2 VA1.out.lt YA.out)
            have R2 := Lib.hid (P1.out.r.frp f2)
            have HQ := Lib.hid (And.intro h2 (And.intro (P1.out.under f2) (And.intro (push_heap (out_heap P1.out.hp hjT) x) P1.out.ge)))
            have HL2 := Lib.hid (show (((upT (outT T j ++ [x]) (outT T j).length).length : Nat) : Int) ≤ most by
              have h3 := (upT_perm _ (outT T j ++ [x]) (outT T j).length (Nat.le_refl _) (by simp)).length_eq
              have h4 := out_len hjT
              rw [h3, List.length_append, List.length_singleton, h4, HMQ.out]
              exact Int.le_refl _)
            generalize nth X kv = y at *
            clear v2 v3 v4 v5 v6 v7 v8
            clear h2 f2 P1 VA1 YA KQ
            have hNV := newvar w2 (itCells y) [.int .i64 0, .int .i64 0, .int .i64 0, .int .i64 0, .int .i64 0, .int .i64 0, .int .i64 0] 31 rfl
            obtain ⟨Y, hY⟩ : ∃ Y, Y = w2.heap.size := ⟨_, rfl⟩
            have HY := Lib.hid hY
            have TH := Lib.hid hNV.1
            have BN := Lib.hid hNV.2.2
            have VY := Lib.hid (show IsObj ((w2.alloc (.cells #[.int .i64 0, .int .i64 0, .int .i64 0, .int .i64 0, .int .i64 0, .int .i64 0, .int .i64 0] 31)).setCells w2.heap.size 0 (itCells y).toArray.toList) Y 31 (itCells y) by rw [hY]; exact hNV.2.1)
            clear hNV hY
            go_upto_region 14 with (refine wpList_store_mid (by rfl) 31 _ _ (by rfl) w2.heap.size 0 (itCells y).toArray (by rfl) (by rfl) (by exact TH.out) (by kernel_rfl) (it_one _) ?_; generalize (w2.alloc (.cells #[.int .i64 0, .int .i64 0, .int .i64 0, .int .i64 0, .int .i64 0, .int .i64 0, .int .i64 0] 31)).setCells w2.heap.size 0 (itCells y).toArray.toList = w3 at *)
            rw [← HY.out]
            clear TH
            have VA3 := Lib.hid (IsObj.below VA2.out BN.out VA2.out.lt)
            have R3 := Lib.hid (R2.out.same BN.out)
            have Q3 := Lib.hid (And.intro (HQ.out.1.same BN.out) (And.intro (HQ.out.2.1.trans (BN.out.mono HQ.out.2.1.size)) HQ.out.2.2))
            clear BN VA2 R2 HQ
            go_meet
            case rel => exact ⟨_, _, tv2, Y, y, true, 0, rfl, rfl, rfl, ⟨Q3.out.1, Q3.out.2.2.1, HM2.out, R3.out, Q3.out.2.1, HL2.out, VA3.out, YA2.out⟩, VY.out, HK.out⟩
        · have hroom : (X.length : Int) + 1 ≤ most := by omega
          have KQ := qadd_ok x P1.out.Q hx hnT (by have := HLEN.out; omega) h64m
          have HM2 := Lib.hid (P1.out.m.push x)
          have HK := Lib.hid (adds_ok ax cx X most x h64 hin hroom)
          go_wp2_with fail
          refine KQ.mono ?_
          rintro e w2 ⟨rfl, tv2, h2, f2⟩
          have VA2 := Lib.hid (f2.isObj VA1.out YA.out.1 YA.out.2.1 YA.out.2.2)
          have YA2 := Lib.hid (SeAt.far f2 VA1.out.lt YA.out)
          have R2 := Lib.hid (P1.out.r.frp f2)
          have HQ := Lib.hid (And.intro h2 (And.intro (P1.out.under f2) (And.intro (push_heap P1.out.hp x) P1.out.ge)))
          have HL2 := Lib.hid (show (((upT (T ++ [x]) T.length).length : Nat) : Int) ≤ most by
            have h3 := (upT_perm _ (T ++ [x]) T.length (Nat.le_refl _) (by simp)).length_eq
            have h4 := HLEN.out
            rw [h3, List.length_append, List.length_singleton]
            omega)
          clear v2 v3 v4 v5 v6 v7 v8
          clear h2 f2 P1 VA1 YA KQ
          have hNV := newvar w2 (itCells it0) [.int .i64 0, .int .i64 0, .int .i64 0, .int .i64 0, .int .i64 0, .int .i64 0, .int .i64 0] 31 rfl
          obtain ⟨Y, hY⟩ : ∃ Y, Y = w2.heap.size := ⟨_, rfl⟩
          have HY := Lib.hid hY
          have TH := Lib.hid hNV.1
          have BN := Lib.hid hNV.2.2
          have VY := Lib.hid (show IsObj ((w2.alloc (.cells #[.int .i64 0, .int .i64 0, .int .i64 0, .int .i64 0, .int .i64 0, .int .i64 0, .int .i64 0] 31)).setCells w2.heap.size 0 (itCells it0).toArray.toList) Y 31 (itCells it0) by rw [hY]; exact hNV.2.1)
          clear hNV hY
          go_upto_region 14 with (refine wpList_store_mid (by rfl) 31 _ _ (by rfl) w2.heap.size 0 (itCells it0).toArray (by rfl) (by rfl) (by exact TH.out) (by kernel_rfl) (it_one _) ?_; generalize (w2.alloc (.cells #[.int .i64 0, .int .i64 0, .int .i64 0, .int .i64 0, .int .i64 0, .int .i64 0, .int .i64 0] 31)).setCells w2.heap.size 0 (itCells it0).toArray.toList = w3 at *)
          rw [← HY.out]
          clear TH
          have VA3 := Lib.hid (IsObj.below VA2.out BN.out VA2.out.lt)
          have R3 := Lib.hid (R2.out.same BN.out)
          have Q3 := Lib.hid (And.intro (HQ.out.1.same BN.out) (And.intro (HQ.out.2.1.trans (BN.out.mono HQ.out.2.1.size)) HQ.out.2.2))
          clear BN VA2 R2 HQ
          go_meet
          case rel => exact ⟨_, _, tv2, Y, it0, false, 0, rfl, rfl, rfl, ⟨Q3.out.1, Q3.out.2.2.1, HM2.out, R3.out, Q3.out.2.1, HL2.out, VA3.out, YA2.out⟩, VY.out, HK.out⟩
    case rest =>
      obtain ⟨T1, X1, tv1, Y, y, g, f, rfl, rfl, rfl, HP3, HY3, HK⟩ := hcut
      generalize wc = w3 at *
      have HGE := Lib.hid P1.out.ge
      clear P1 VA1 YA
      have VA3 := Lib.hid HP3.out.2.2.2.2.2.2.1
      have v2 : w3.cell? ⟨A, 2, none⟩ = some (.int .i64 x.id) := VA3.out.cell 2
      have v3 : w3.cell? ⟨A, 3, none⟩ = some (.int .i64 x.lev) := VA3.out.cell 3
      have v4 : w3.cell? ⟨A, 4, none⟩ = some (.int .i64 x.frm) := VA3.out.cell 4
      have v5 : w3.cell? ⟨A, 5, none⟩ = some (.int .i64 x.dl) := VA3.out.cell 5
      have v6 : w3.cell? ⟨A, 6, none⟩ = some (.int .i64 x.bud) := VA3.out.cell 6
      have v7 : w3.cell? ⟨A, 7, none⟩ = some (.int .i64 x.since) := VA3.out.cell 7
      have v8 : w3.cell? ⟨A, 8, none⟩ = some (.int .i64 x.seq) := VA3.out.cell 8
      go_wp2_with fail
      refine (HK.out w3 HP3.out.2.2.2.1.row).mono ?_
      rintro e w4 ⟨v, rfl, hv, b4⟩
      obtain ⟨ax2, cx2, rfl, hr4⟩ : ∃ ax2 cx2, v = .slice ax2 X1.length cx2 ∧ RowX w4 p M tv1 ax2 cx2 X1 := by
        rcases hv with ⟨rfl, rfl⟩ | hown
        · exact ⟨ax, cx, rfl, HP3.out.2.2.2.1.same b4⟩
        · exact RowX.young HP3.out.1.h hown
      have VY4 := Lib.hid (IsObj.below HY3.out b4 HY3.out.lt)
      have VA4 := Lib.hid (IsObj.below VA3.out b4 VA3.out.lt)
      have P4 := Lib.hid (show QlAt w w4 q p M most tv1 T1 X1 ax2 cx2 from ⟨HP3.out.1.same b4, HP3.out.2.1, HP3.out.2.2.1, hr4, HP3.out.2.2.2.2.1.trans (b4.mono HP3.out.2.2.2.2.1.size), HGE.out, HP3.out.2.2.2.2.2.1⟩)
      have YA4 := Lib.hid HP3.out.2.2.2.2.2.2.2
      clear b4 hv hr4 HP3 HY3 HK VA3
      clear v2 v3 v4 v5 v6 v7 v8
      have hNV := newvar w4 (itCells y) [.int .i64 0, .int .i64 0, .int .i64 0, .int .i64 0, .int .i64 0, .int .i64 0, .int .i64 0] 31 rfl
      obtain ⟨Z, hZ⟩ : ∃ Z, Z = w4.heap.size := ⟨_, rfl⟩
      have HZ := Lib.hid hZ
      have TH := Lib.hid hNV.1
      have BN := Lib.hid hNV.2.2
      have VZ := Lib.hid (show IsObj ((w4.alloc (.cells #[.int .i64 0, .int .i64 0, .int .i64 0, .int .i64 0, .int .i64 0, .int .i64 0, .int .i64 0] 31)).setCells w4.heap.size 0 (itCells y).toArray.toList) Z 31 (itCells y) by rw [hZ]; exact hNV.2.1)
      clear hNV hZ
      go_upto_region 15 with (refine wpList_store_mid (by rfl) 31 _ _ (by rfl) w4.heap.size 0 (itCells y).toArray (by rfl) (by rfl) (by exact TH.out) (by kernel_rfl) (it_one _) ?_; generalize (w4.alloc (.cells #[.int .i64 0, .int .i64 0, .int .i64 0, .int .i64 0, .int .i64 0, .int .i64 0, .int .i64 0] 31)).setCells w4.heap.size 0 (itCells y).toArray.toList = w5 at *)
      rw [← HZ.out]
      clear TH
      have VY5 := Lib.hid (IsObj.below VY4.out BN.out VY4.out.lt)
      have P5 := Lib.hid (P4.out.same BN.out)
      have VA5 := Lib.hid (IsObj.below VA4.out BN.out VA4.out.lt)
      clear P4 VA4
      clear BN VY4
      have u0 : w5.cell? ⟨Y, 0, none⟩ = some (.int .i64 y.id) := VY5.out.cell 0
      have u1 : w5.cell? ⟨Y, 1, none⟩ = some (.int .i64 y.lev) := VY5.out.cell 1
      have u2 : w5.cell? ⟨Y, 2, none⟩ = some (.int .i64 y.frm) := VY5.out.cell 2
      have u3 : w5.cell? ⟨Y, 3, none⟩ = some (.int .i64 y.dl) := VY5.out.cell 3
      have u4 : w5.cell? ⟨Y, 4, none⟩ = some (.int .i64 y.bud) := VY5.out.cell 4
      have u5 : w5.cell? ⟨Y, 5, none⟩ = some (.int .i64 y.since) := VY5.out.cell 5
      have u6 : w5.cell? ⟨Y, 6, none⟩ = some (.int .i64 y.seq) := VY5.out.cell 6
      have t0 : w5.cell? ⟨Z, 0, none⟩ = some (.int .i64 y.id) := VZ.out.cell 0
      have t1 : w5.cell? ⟨Z, 1, none⟩ = some (.int .i64 y.lev) := VZ.out.cell 1
      have t2 : w5.cell? ⟨Z, 2, none⟩ = some (.int .i64 y.frm) := VZ.out.cell 2
      have t3 : w5.cell? ⟨Z, 3, none⟩ = some (.int .i64 y.dl) := VZ.out.cell 3
      have t4 : w5.cell? ⟨Z, 4, none⟩ = some (.int .i64 y.bud) := VZ.out.cell 4
      have t5 : w5.cell? ⟨Z, 5, none⟩ = some (.int .i64 y.since) := VZ.out.cell 5
      have t6 : w5.cell? ⟨Z, 6, none⟩ = some (.int .i64 y.seq) := VZ.out.cell 6
      go_wp2_with fail
      go_meet
      case rel => exact ⟨T1, X1, ax2, cx2, tv1, rfl, P5.out, VA5.out, YA4.out⟩
  · have k0b : (k == 0) = false := by simpa using k0
    by_cases k1 : k = 1
    · subst k1
      have HLEN := Lib.hid P1.out.m.len
      have h64 := P1.out.len
      by_cases hX : X = []
      · subst hX
        have hT : T = [] := List.eq_nil_of_length_eq_zero (by rw [← HLEN.out]; rfl)
        subst hT
        go_wp2_with fail
        refine (qnext_empty P1.out.Q).mono ?_
        rintro e w2 ⟨rfl, b2⟩
        have P2 := Lib.hid (P1.out.same b2)
        have VA2 := Lib.hid (IsObj.below VA1.out b2 VA1.out.lt)
        clear P1 VA1
        clear b2
        have hNV := newvar w2 (itCells it0) [.int .i64 0, .int .i64 0, .int .i64 0, .int .i64 0, .int .i64 0, .int .i64 0, .int .i64 0] 31 rfl
        obtain ⟨Y, hY⟩ : ∃ Y, Y = w2.heap.size := ⟨_, rfl⟩
        have HY := Lib.hid hY
        have TH := Lib.hid hNV.1
        have BN := Lib.hid hNV.2.2
        have VY := Lib.hid (show IsObj ((w2.alloc (.cells #[.int .i64 0, .int .i64 0, .int .i64 0, .int .i64 0, .int .i64 0, .int .i64 0, .int .i64 0] 31)).setCells w2.heap.size 0 (itCells it0).toArray.toList) Y 31 (itCells it0) by rw [hY]; exact hNV.2.1)
        clear hNV hY
        go_upto_region 20 with (refine wpList_store_mid (by rfl) 31 _ _ (by rfl) w2.heap.size 0 (itCells it0).toArray (by rfl) (by rfl) (by exact TH.out) (by kernel_rfl) (it_one _) ?_; generalize (w2.alloc (.cells #[.int .i64 0, .int .i64 0, .int .i64 0, .int .i64 0, .int .i64 0, .int .i64 0, .int .i64 0] 31)).setCells w2.heap.size 0 (itCells it0).toArray.toList = w3 at *)
        rw [← HY.out]
        clear TH
        have P3 := Lib.hid (P2.out.same BN.out)
        have VA3 := Lib.hid (IsObj.below VA2.out BN.out VA2.out.lt)
        clear P2 VA2
        clear BN
        have u0 : w3.cell? ⟨Y, 0, none⟩ = some (.int .i64 0) := VY.out.cell 0
        have u1 : w3.cell? ⟨Y, 1, none⟩ = some (.int .i64 0) := VY.out.cell 1
        have u2 : w3.cell? ⟨Y, 2, none⟩ = some (.int .i64 0) := VY.out.cell 2
        have u3 : w3.cell? ⟨Y, 3, none⟩ = some (.int .i64 0) := VY.out.cell 3
        have u4 : w3.cell? ⟨Y, 4, none⟩ = some (.int .i64 0) := VY.out.cell 4
        have u5 : w3.cell? ⟨Y, 5, none⟩ = some (.int .i64 0) := VY.out.cell 5
        have u6 : w3.cell? ⟨Y, 6, none⟩ = some (.int .i64 0) := VY.out.cell 6
        go_quiet (fail)
        have hbd : Below w3.heap.size w3 (w3.drewN nq) := below_drewN (Below.refl _ _) nq
        have P4 := Lib.hid (P3.out.same hbd)
        have VA4 := Lib.hid (IsObj.below VA3.out hbd VA3.out.lt)
        clear P3 VA3 hbd VY u0 u1 u2 u3 u4 u5 u6
        generalize w3.drewN nq = w4 at *
        go_wp2_with fail
        go_meet
        case rel => exact ⟨[], [], ax, cx, tv, rfl, P4.out, VA4.out, YA.out⟩
      · have hX0 : 0 < X.length := List.length_pos_iff.2 hX
        have hT0 : 0 < T.length := by have := HLEN.out; omega
        have hhead := P1.out.m.head P1.out.Q.h.nd P1.out.hp hT0
        have HM2 := Lib.hid (P1.out.m.pop P1.out.Q.h.nd P1.out.hp hT0)
        have HL2 := Lib.hid (show (((outT T 0).length : Nat) : Int) ≤ most by have h3 := out_len hT0; have h4 := P1.out.lm; omega)
        go_wp2_with fail
        refine (qnext_any P1.out.Q hT0).mono ?_
        rintro e w2 ⟨rfl, tv2, h2, f2⟩
        rw [← hhead]
        have VA2 := Lib.hid (f2.isObj VA1.out YA.out.1 YA.out.2.1 YA.out.2.2)
        have YA2 := Lib.hid (SeAt.far f2 VA1.out.lt YA.out)
        have HQ := Lib.hid (And.intro h2 (And.intro (P1.out.r.frp f2) (And.intro (P1.out.under f2) (And.intro (out_heap P1.out.hp hT0) P1.out.ge))))
        clear h2 f2 P1 VA1 YA hhead
        generalize hy : nth X 0 = y
        have hNV := newvar w2 (itCells y) [.int .i64 0, .int .i64 0, .int .i64 0, .int .i64 0, .int .i64 0, .int .i64 0, .int .i64 0] 31 rfl
        obtain ⟨Y, hY⟩ : ∃ Y, Y = w2.heap.size := ⟨_, rfl⟩
        have HY := Lib.hid hY
        have TH := Lib.hid hNV.1
        have BN := Lib.hid hNV.2.2
        have VY := Lib.hid (show IsObj ((w2.alloc (.cells #[.int .i64 0, .int .i64 0, .int .i64 0, .int .i64 0, .int .i64 0, .int .i64 0, .int .i64 0] 31)).setCells w2.heap.size 0 (itCells y).toArray.toList) Y 31 (itCells y) by rw [hY]; exact hNV.2.1)
        clear hNV hY
        go_upto_region 20 with (refine wpList_store_mid (by rfl) 31 _ _ (by rfl) w2.heap.size 0 (itCells y).toArray (by rfl) (by rfl) (by exact TH.out) (by kernel_rfl) (it_one _) ?_; generalize (w2.alloc (.cells #[.int .i64 0, .int .i64 0, .int .i64 0, .int .i64 0, .int .i64 0, .int .i64 0, .int .i64 0] 31)).setCells w2.heap.size 0 (itCells y).toArray.toList = w3 at *)
        rw [← HY.out]
        clear TH
        have R3 := Lib.hid (HQ.out.2.1.same BN.out)
        have VA3 := Lib.hid (IsObj.below VA2.out BN.out VA2.out.lt)
        have P3 := Lib.hid (And.intro (HQ.out.1.same BN.out) (HQ.out.2.2.1.trans (BN.out.mono HQ.out.2.2.1.size)))
        have HQ2 := Lib.hid HQ.out.2.2.2
        clear BN HQ VA2
        obtain ⟨bx, ox, rfl, hcx⟩ : ∃ b off, ax = some ⟨b, off, none⟩ ∧ ∀ i, i < X.length → ∀ j, j < 7 → w3.cell? ⟨b, off + i * 7 + j, none⟩ = (itCells (nth X i))[j]? := by
          rcases R3.out.row with h | h
          · exact absurd h hX
          · exact h
        have u0 : w3.cell? ⟨Y, 0, none⟩ = some (.int .i64 y.id) := VY.out.cell 0
        have u1 : w3.cell? ⟨Y, 1, none⟩ = some (.int .i64 y.lev) := VY.out.cell 1
        have u2 : w3.cell? ⟨Y, 2, none⟩ = some (.int .i64 y.frm) := VY.out.cell 2
        have u3 : w3.cell? ⟨Y, 3, none⟩ = some (.int .i64 y.dl) := VY.out.cell 3
        have u4 : w3.cell? ⟨Y, 4, none⟩ = some (.int .i64 y.bud) := VY.out.cell 4
        have u5 : w3.cell? ⟨Y, 5, none⟩ = some (.int .i64 y.since) := VY.out.cell 5
        have u6 : w3.cell? ⟨Y, 6, none⟩ = some (.int .i64 y.seq) := VY.out.cell 6
        obtain ⟨t0, t1, t2, t3, t4, t5, t6⟩ := item_cells hcx 0 hX0
        rw [Nat.zero_mul, Nat.add_zero, hy] at t0 t1 t2 t3 t4 t5 t6
        have g0 : (0 : Int) < (X.length : Int) := by omega
        have g1 : decide ((0 : Int) < (X.length : Int)) = true := decide_eq_true g0
        have g2 : (1 : Int) ≤ (X.length : Int) := by omega
        clear hcx
        go_quiet (fail)
        have hbd : Below w3.heap.size w3 (w3.drewN nq) := below_drewN (Below.refl _ _) nq
        have R4 := Lib.hid (R3.out.same hbd)
        have VA4 := Lib.hid (IsObj.below VA3.out hbd VA3.out.lt)
        have P4 := Lib.hid (And.intro (P3.out.1.same hbd) (P3.out.2.trans (hbd.mono P3.out.2.size)))
        clear P3 VA3 R3 hbd VY u0 u1 u2 u3 u4 u5 u6 t0 t1 t2 t3 t4 t5 t6
        generalize w3.drewN nq = w4 at *
        have hdl : (X.drop 1).length = X.length - 1 := List.length_drop ..
        by_cases hc1 : cx = 1
        · subst hc1
          have hl1 : X.length = 1 := by have := R4.out.cap.1; omega
          have hd : X.drop 1 = [] := List.drop_eq_nil_of_le (by omega)
          have P5 := Lib.hid (show QlAt w w4 q p M most tv2 (outT T 0) [] (some ⟨bx, ox, none⟩) 0 from ⟨P4.out.1, HQ2.out.1, by rw [← hd]; exact HM2.out, ⟨.inl rfl, ⟨Nat.le_refl _, by omega⟩, fun b off e h => by simp at h⟩, P4.out.2, HQ2.out.2, HL2.out⟩)
          rw [hl1]
          clear P4 R4
          go_wp2_with fail
          go_meet
          case rel => exact ⟨_, [], _, 0, tv2, rfl, P5.out, VA4.out, YA2.out⟩
        · have hc1n : ¬ ((cx : Int) = 1) := by omega
          have P5 := Lib.hid (show QlAt w w4 q p M most tv2 (outT T 0) (X.drop 1) (some ⟨bx, ox + 7, none⟩) (cx - 1) from ⟨P4.out.1, HQ2.out.1, HM2.out, R4.out.drop1 hX0 hc1, P4.out.2, HQ2.out.2, HL2.out⟩)
          clear P4 R4
          go_wp2_with fail
          go_meet
          case rel => exact ⟨_, X.drop 1, _, cx - 1, tv2, by rw [hdl], P5.out, VA4.out, YA2.out⟩
    · have k1b : (k == 1) = false := by simpa using k1
      by_cases k2 : k = 2
      · subst k2
        have hmem := mem_ids P1.out.m x.id
        have HLEN := Lib.hid P1.out.m.len
        have h64 := P1.out.len
        have v2 : w1.cell? ⟨A, 2, none⟩ = some (.int .i64 x.id) := VA1.out.cell 2
        rcases fnd_law X x.id with ⟨hk, hn⟩ | ⟨j, hj, hk, hjid, _⟩
        · have hnT : x.id ∉ T.map It.id := fun hm => hn (hmem.2 hm)
          clear hmem
          go_wp2_with fail
          refine (qtake_out x.id P1.out.Q hx hnT).mono ?_
          rintro e w2 ⟨rfl, b2⟩
          have P2 := Lib.hid (P1.out.same b2)
          have VA2 := Lib.hid (IsObj.below VA1.out b2 VA1.out.lt)
          clear P1 VA1
          clear b2 v2
          have hNV := newvar w2 (itCells it0) [.int .i64 0, .int .i64 0, .int .i64 0, .int .i64 0, .int .i64 0, .int .i64 0, .int .i64 0] 31 rfl
          obtain ⟨Y, hY⟩ : ∃ Y, Y = w2.heap.size := ⟨_, rfl⟩
          have HY := Lib.hid hY
          have TH := Lib.hid hNV.1
          have BN := Lib.hid hNV.2.2
          have VY := Lib.hid (show IsObj ((w2.alloc (.cells #[.int .i64 0, .int .i64 0, .int .i64 0, .int .i64 0, .int .i64 0, .int .i64 0, .int .i64 0] 31)).setCells w2.heap.size 0 (itCells it0).toArray.toList) Y 31 (itCells it0) by rw [hY]; exact hNV.2.1)
          clear hNV hY
          go_upto_region 26 with (refine wpList_store_mid (by rfl) 31 _ _ (by rfl) w2.heap.size 0 (itCells it0).toArray (by rfl) (by rfl) (by exact TH.out) (by kernel_rfl) (it_one _) ?_; generalize (w2.alloc (.cells #[.int .i64 0, .int .i64 0, .int .i64 0, .int .i64 0, .int .i64 0, .int .i64 0, .int .i64 0] 31)).setCells w2.heap.size 0 (itCells it0).toArray.toList = w3 at *)
          rw [← HY.out]
          clear TH
          have P3 := Lib.hid (P2.out.same BN.out)
          have VA3 := Lib.hid (IsObj.below VA2.out BN.out VA2.out.lt)
          clear P2 VA2
          clear BN
          have v2 : w3.cell? ⟨A, 2, none⟩ = some (.int .i64 x.id) := VA3.out.cell 2
          go_wp2_with fail
          refine (rtake_out ax cx X x.id w3 h64 P3.out.r.row hn).mono ?_
          rintro e w4 ⟨rfl, b4⟩
          have VY4 := Lib.hid (IsObj.below VY.out b4 VY.out.lt)
          have P4 := Lib.hid (P3.out.same b4)
          have VA4 := Lib.hid (IsObj.below VA3.out b4 VA3.out.lt)
          clear P3 VA3
          clear b4 VY v2
          have hNV := newvar w4 (itCells it0) [.int .i64 0, .int .i64 0, .int .i64 0, .int .i64 0, .int .i64 0, .int .i64 0, .int .i64 0] 31 rfl
          obtain ⟨Z, hZ⟩ : ∃ Z, Z = w4.heap.size := ⟨_, rfl⟩
          have HZ := Lib.hid hZ
          have TH := Lib.hid hNV.1
          have BN := Lib.hid hNV.2.2
          have VZ := Lib.hid (show IsObj ((w4.alloc (.cells #[.int .i64 0, .int .i64 0, .int .i64 0, .int .i64 0, .int .i64 0, .int .i64 0, .int .i64 0] 31)).setCells w4.heap.size 0 (itCells it0).toArray.toList) Z 31 (itCells it0) by rw [hZ]; exact hNV.2.1)
          clear hNV hZ
          go_upto_region 27 with (refine wpList_store_mid (by rfl) 31 _ _ (by rfl) w4.heap.size 0 (itCells it0).toArray (by rfl) (by rfl) (by exact TH.out) (by kernel_rfl) (it_one _) ?_; generalize (w4.alloc (.cells #[.int .i64 0, .int .i64 0, .int .i64 0, .int .i64 0, .int .i64 0, .int .i64 0, .int .i64 0] 31)).setCells w4.heap.size 0 (itCells it0).toArray.toList = w5 at *)
          rw [← HZ.out]
          clear TH
          have VY5 := Lib.hid (IsObj.below VY4.out BN.out VY4.out.lt)
          have P5 := Lib.hid (P4.out.same BN.out)
          have VA5 := Lib.hid (IsObj.below VA4.out BN.out VA4.out.lt)
          clear P4 VA4
          clear BN VY4
          have u0 : w5.cell? ⟨Y, 0, none⟩ = some (.int .i64 0) := VY5.out.cell 0
          have u1 : w5.cell? ⟨Y, 1, none⟩ = some (.int .i64 0) := VY5.out.cell 1
          have u2 : w5.cell? ⟨Y, 2, none⟩ = some (.int .i64 0) := VY5.out.cell 2
          have u3 : w5.cell? ⟨Y, 3, none⟩ = some (.int .i64 0) := VY5.out.cell 3
          have u4 : w5.cell? ⟨Y, 4, none⟩ = some (.int .i64 0) := VY5.out.cell 4
          have u5 : w5.cell? ⟨Y, 5, none⟩ = some (.int .i64 0) := VY5.out.cell 5
          have u6 : w5.cell? ⟨Y, 6, none⟩ = some (.int .i64 0) := VY5.out.cell 6
          have t0 : w5.cell? ⟨Z, 0, none⟩ = some (.int .i64 0) := VZ.out.cell 0
          have t1 : w5.cell? ⟨Z, 1, none⟩ = some (.int .i64 0) := VZ.out.cell 1
          have t2 : w5.cell? ⟨Z, 2, none⟩ = some (.int .i64 0) := VZ.out.cell 2
          have t3 : w5.cell? ⟨Z, 3, none⟩ = some (.int .i64 0) := VZ.out.cell 3
          have t4 : w5.cell? ⟨Z, 4, none⟩ = some (.int .i64 0) := VZ.out.cell 4
          have t5 : w5.cell? ⟨Z, 5, none⟩ = some (.int .i64 0) := VZ.out.cell 5
          have t6 : w5.cell? ⟨Z, 6, none⟩ = some (.int .i64 0) := VZ.out.cell 6
          go_wp2_with fail
          go_meet
          case rel => exact ⟨T, X, ax, cx, tv, rfl, P5.out, VA5.out, YA.out⟩
        · have hin : x.id ∈ X.map It.id := by rw [← hjid]; exact nth_mem hj
          obtain ⟨n, hnT, hnid⟩ := mem_nth (hmem.1 hin)
          obtain ⟨heq, hM2⟩ := P1.out.m.out P1.out.Q.h.nd hnT hj (by rw [hjid, hnid])
          have HM2 := Lib.hid hM2
          have HL2 := Lib.hid (show (((outT T n).length : Nat) : Int) ≤ most by have h3 := out_len hnT; have h4 := P1.out.lm; omega)
          have KT := qtake_in n P1.out.Q hnT
          rw [hnid, ← heq] at KT
          clear hM2 hnid heq hjid hmem
          go_wp2_with fail
          refine KT.mono ?_
          rintro e w2 ⟨rfl, tv2, h2, f2⟩
          have VA2 := Lib.hid (f2.isObj VA1.out YA.out.1 YA.out.2.1 YA.out.2.2)
          have YA2 := Lib.hid (SeAt.far f2 VA1.out.lt YA.out)
          have HQ := Lib.hid (And.intro h2 (And.intro (P1.out.r.frp f2) (And.intro (P1.out.under f2) (And.intro (out_heap P1.out.hp hnT) P1.out.ge))))
          clear h2 f2 P1 VA1 YA KT v2
          generalize hy : nth X j = y at *
          have hNV := newvar w2 (itCells y) [.int .i64 0, .int .i64 0, .int .i64 0, .int .i64 0, .int .i64 0, .int .i64 0, .int .i64 0] 31 rfl
          obtain ⟨Y, hY⟩ : ∃ Y, Y = w2.heap.size := ⟨_, rfl⟩
          have HY := Lib.hid hY
          have TH := Lib.hid hNV.1
          have BN := Lib.hid hNV.2.2
          have VY := Lib.hid (show IsObj ((w2.alloc (.cells #[.int .i64 0, .int .i64 0, .int .i64 0, .int .i64 0, .int .i64 0, .int .i64 0, .int .i64 0] 31)).setCells w2.heap.size 0 (itCells y).toArray.toList) Y 31 (itCells y) by rw [hY]; exact hNV.2.1)
          clear hNV hY
          go_upto_region 26 with (refine wpList_store_mid (by rfl) 31 _ _ (by rfl) w2.heap.size 0 (itCells y).toArray (by rfl) (by rfl) (by exact TH.out) (by kernel_rfl) (it_one _) ?_; generalize (w2.alloc (.cells #[.int .i64 0, .int .i64 0, .int .i64 0, .int .i64 0, .int .i64 0, .int .i64 0, .int .i64 0] 31)).setCells w2.heap.size 0 (itCells y).toArray.toList = w3 at *)
          rw [← HY.out]
          clear TH
          have R3 := Lib.hid (HQ.out.2.1.same BN.out)
          have VA3 := Lib.hid (IsObj.below VA2.out BN.out VA2.out.lt)
          have P3 := Lib.hid (And.intro (HQ.out.1.same BN.out) (HQ.out.2.2.1.trans (BN.out.mono HQ.out.2.2.1.size)))
          have HQ2 := Lib.hid HQ.out.2.2.2
          clear BN HQ VA2
          have v2 : w3.cell? ⟨A, 2, none⟩ = some (.int .i64 x.id) := VA3.out.cell 2
          have KR := rtake_in ax cx X x.id j w3 h64 R3.out.cap.1 R3.out.cap.2 R3.out.row (fun b off e => (R3.out.ap b off e (by omega)).1) hj hk
          rw [hy] at KR
          go_wp2_with fail
          refine KR.mono ?_
          rintro e w4 ⟨v, rfl, hown, b4⟩
          obtain ⟨ax2, cx2, rfl, hr4⟩ := RowX.young P3.out.1.h hown
          have P4 := Lib.hid (show QlAt w w4 q p M most tv2 (outT T n) (X.take j ++ X.drop (j + 1)) ax2 cx2 from ⟨P3.out.1.same b4, HQ2.out.1, HM2.out, hr4, P3.out.2.trans (b4.mono P3.out.2.size), HQ2.out.2, HL2.out⟩)
          have VA4 := Lib.hid (IsObj.below VA3.out b4 VA3.out.lt)
          have VY4 := Lib.hid (IsObj.below VY.out b4 VY.out.lt)
          clear hown hr4 b4 P3 VA3 R3 KR VY v2
          generalize hX2 : X.take j ++ X.drop (j + 1) = X2 at *
          have hNV := newvar w4 (itCells y) [.int .i64 0, .int .i64 0, .int .i64 0, .int .i64 0, .int .i64 0, .int .i64 0, .int .i64 0] 31 rfl
          obtain ⟨Z, hZ⟩ : ∃ Z, Z = w4.heap.size := ⟨_, rfl⟩
          have HZ := Lib.hid hZ
          have TH := Lib.hid hNV.1
          have BN := Lib.hid hNV.2.2
          have VZ := Lib.hid (show IsObj ((w4.alloc (.cells #[.int .i64 0, .int .i64 0, .int .i64 0, .int .i64 0, .int .i64 0, .int .i64 0, .int .i64 0] 31)).setCells w4.heap.size 0 (itCells y).toArray.toList) Z 31 (itCells y) by rw [hZ]; exact hNV.2.1)
          clear hNV hZ
          go_upto_region 27 with (refine wpList_store_mid (by rfl) 31 _ _ (by rfl) w4.heap.size 0 (itCells y).toArray (by rfl) (by rfl) (by exact TH.out) (by kernel_rfl) (it_one _) ?_; generalize (w4.alloc (.cells #[.int .i64 0, .int .i64 0, .int .i64 0, .int .i64 0, .int .i64 0, .int .i64 0, .int .i64 0] 31)).setCells w4.heap.size 0 (itCells y).toArray.toList = w5 at *)
          rw [← HZ.out]
          clear TH
          have VY5 := Lib.hid (IsObj.below VY4.out BN.out VY4.out.lt)
          have P5 := Lib.hid (P4.out.same BN.out)
          have VA5 := Lib.hid (IsObj.below VA4.out BN.out VA4.out.lt)
          clear P4 VA4
          clear BN VY4
          have u0 : w5.cell? ⟨Y, 0, none⟩ = some (.int .i64 y.id) := VY5.out.cell 0
          have u1 : w5.cell? ⟨Y, 1, none⟩ = some (.int .i64 y.lev) := VY5.out.cell 1
          have u2 : w5.cell? ⟨Y, 2, none⟩ = some (.int .i64 y.frm) := VY5.out.cell 2
          have u3 : w5.cell? ⟨Y, 3, none⟩ = some (.int .i64 y.dl) := VY5.out.cell 3
          have u4 : w5.cell? ⟨Y, 4, none⟩ = some (.int .i64 y.bud) := VY5.out.cell 4
          have u5 : w5.cell? ⟨Y, 5, none⟩ = some (.int .i64 y.since) := VY5.out.cell 5
          have u6 : w5.cell? ⟨Y, 6, none⟩ = some (.int .i64 y.seq) := VY5.out.cell 6
          have t0 : w5.cell? ⟨Z, 0, none⟩ = some (.int .i64 y.id) := VZ.out.cell 0
          have t1 : w5.cell? ⟨Z, 1, none⟩ = some (.int .i64 y.lev) := VZ.out.cell 1
          have t2 : w5.cell? ⟨Z, 2, none⟩ = some (.int .i64 y.frm) := VZ.out.cell 2
          have t3 : w5.cell? ⟨Z, 3, none⟩ = some (.int .i64 y.dl) := VZ.out.cell 3
          have t4 : w5.cell? ⟨Z, 4, none⟩ = some (.int .i64 y.bud) := VZ.out.cell 4
          have t5 : w5.cell? ⟨Z, 5, none⟩ = some (.int .i64 y.since) := VZ.out.cell 5
          have t6 : w5.cell? ⟨Z, 6, none⟩ = some (.int .i64 y.seq) := VZ.out.cell 6
          go_wp2_with fail
          go_meet
          case rel => exact ⟨_, X2, ax2, cx2, tv2, rfl, P5.out, VA5.out, YA2.out⟩
      · have k2b : (k == 2) = false := by simpa using k2
        by_cases k3 : k = 3
        · subst k3
          have HLEN := Lib.hid P1.out.m.len
          have h64 := P1.out.len
          have v1 : w1.cell? ⟨A, 1, none⟩ = some (.int .i64 now) := VA1.out.cell 1
          go_wp2_with fail
          refine (rsweep_any ax cx X now w1 h64 P1.out.r.row).mono ?_
          rintro e w2 ⟨vo, vg, rfl, ho1, ho2, b2⟩
          obtain ⟨ax1, cx1, rfl, hr1⟩ := RowX.young P1.out.Q.h ho1
          obtain ⟨ax2, cx2, rfl, hr2⟩ := RowX.young P1.out.Q.h ho2
          have R1 := Lib.hid hr1
          have R2 := Lib.hid hr2
          clear ho1 ho2 hr1 hr2 v1
          have P2 := Lib.hid (P1.out.same b2)
          have VA2 := Lib.hid (IsObj.below VA1.out b2 VA1.out.lt)
          clear P1 VA1
          clear b2
          have v1 : w2.cell? ⟨A, 1, none⟩ = some (.int .i64 now) := VA2.out.cell 1
          go_wp2_with fail
          refine (qsweep_any now P2.out.Q P2.out.hp P2.out.m).mono ?_
          rintro e w3 ⟨T3, tv3, v3, rfl, hq3, f3, hm3, hh3, ho3, _⟩
          have VA3 := Lib.hid (f3.isObj VA2.out YA.out.1 YA.out.2.1 YA.out.2.2)
          have YA3 := Lib.hid (SeAt.far f3 VA2.out.lt YA.out)
          have R23 := Lib.hid (R2.out.frp f3)
          have P3 := Lib.hid (show QlAt w w3 q p M most tv3 T3 (stays now X) ax1 cx1 from ⟨hq3, hh3, hm3, R1.out.frp f3, P2.out.under f3, P2.out.ge, by
            have h1 := hm3.len
            have h2 : (stays now X).length ≤ X.length := List.length_filter_le _ _
            have h3 := P2.out.lm
            have h4 := HLEN.out
            omega⟩)
          obtain ⟨a3, c3, rfl, hr3⟩ := own_row ho3
          have hgl := goes_le now X
          have KS := isame_eq a3 ax2 c3 cx2 (goes now X) w3 (by omega) hr3 R23.out.row
          clear hq3 f3 hm3 hh3 ho3 hr3 R1 R2 P2 VA2 YA v1
          go_wp2_with fail
          refine KS.mono ?_
          rintro e w4 ⟨rfl, b4⟩
          have P4 := Lib.hid (P3.out.same b4)
          have VA4 := Lib.hid (IsObj.below VA3.out b4 VA3.out.lt)
          clear P3 VA3
          clear b4 KS R23
          go_wp2_with fail
          go_meet
          case rel => exact ⟨T3, stays now X, ax1, cx1, tv3, rfl, P4.out, VA4.out, YA3.out⟩
        · have k3b : (k == 3) = false := by simpa using k3
          by_cases k4 : k = 4
          · subst k4
            go_wp2_with fail
            refine (qclear_any P1.out.Q).mono ?_
            rintro e w2 ⟨rfl, h2, f2⟩
            have VA2 := Lib.hid (f2.isObj VA1.out YA.out.1 YA.out.2.1 YA.out.2.2)
            have YA2 := Lib.hid (SeAt.far f2 VA1.out.lt YA.out)
            have P2 := Lib.hid (show QlAt w w2 q p M most (.slice none 0 0) [] [] none 0 from ⟨h2, heap_nil, mir_nil, RowX.nil _ _ _ _, P1.out.under f2, P1.out.ge, by have := h0; simp; omega⟩)
            clear h2 f2 P1 VA1 YA
            go_wp2_with fail
            go_meet
            case rel => exact ⟨[], [], none, 0, _, rfl, P2.out, VA2.out, YA2.out⟩
          · have k4b : (k == 4) = false := by simpa using k4
            go_wp2_with fail
            go_meet
            case rel => exact ⟨T, X, ax, cx, tv, rfl, P1.out, VA1.out, YA.out⟩
set_option maxRecDepth 100000 in
set_option maxHeartbeats 16000000 in
theorem qplays_walk (most : Int) (a : Option Addr) (c : Nat) (l : List Ad) (w : World) (hc : l.length ≤ c) (hcm : c ≤ 9223372036854775807) (hwf : ∀ i, i < l.length → IdOk (nth l i).x.id) (hA : RowOf adCells 9 w a l) :
    Calls Try.prog 8 #[.int .i64 most, .slice a l.length c] w fun e w' => e = .returned (.bool true) ∧ Below w.heap.size w w' := by
  by_cases h100 : 100 < l.length
  · have hz : (100 : Int) < (l.length : Int) := by omega
    clear hA
    go_enter Try.func8, Try.ntmps8
    go_wp2_with (go_at_call 29; refine (awake13 _).mono ?_; rintro e w1 ⟨rfl, hb⟩)
    go_ret
    exact ⟨rfl, hb⟩
  · have hz : ¬ (100 : Int) < (l.length : Int) := by omega
    by_cases hbad : most < 1 ∨ 64 < most
    · clear hA
      have HBD := Lib.hid hbad
      by_cases h0 : most < 1
      · have j0 : decide (most < 1) = true := decide_eq_true h0
        clear hbad
        go_enter Try.func8, Try.ntmps8
        go_wp2_with (first | (go_at_call 30; refine (qnew_bad most _ HBD.out).mono ?_; rintro e w1 ⟨rfl, rfl⟩) | (go_at_call 29; refine (awake13 _).mono ?_; rintro e w1 ⟨rfl, hb⟩))
        go_ret
        exact ⟨rfl, hb⟩
      · have h1 : 64 < most := by omega
        have j0 : decide (most < 1) = false := decide_eq_false h0
        have j1 : decide (64 < most) = true := decide_eq_true h1
        clear hbad
        go_enter Try.func8, Try.ntmps8
        go_wp2_with (first | (go_at_call 30; refine (qnew_bad most _ HBD.out).mono ?_; rintro e w1 ⟨rfl, rfl⟩) | (go_at_call 29; refine (awake13 _).mono ?_; rintro e w1 ⟨rfl, hb⟩))
        go_ret
        exact ⟨rfl, hb⟩
    · have h0 : 1 ≤ most := by omega
      have h64 : most ≤ 64 := by omega
      have j0 : decide (most < 1) = false := decide_eq_false (by omega)
      have j1 : decide (64 < most) = false := decide_eq_false (by omega)
      have HA := Lib.hid hA
      have KN := qnew_ok most w h0 h64
      clear hA hbad
      go_enter Try.func8, Try.ntmps8
      go_wp2_with (go_at_call 30; refine KN.mono ?_; rintro e w1 ⟨q, p, M, rfl, h1, b1, gM, gp, gq⟩)
      have hst : QlAt w w1 q p M most (.slice none 0 0) [] [] none 0 := ⟨h1, heap_nil, mir_nil, RowX.nil _ _ _ _, b1, ⟨gM, gp⟩, by simp; omega⟩
      have HST : Aside _ := hst
      clear KN hst h1 b1
      go_loopg [7, 8] l.length (fun kx s7 s8 wr => ∃ (i : Nat) (T X : List It) (ax : Option Addr) (cx : Nat) (tv : Value), i ≤ l.length ∧ l.length - i ≤ kx ∧ s7 = .slice ax X.length cx ∧ s8 = .int .i64 i ∧ Aside (QlAt w wr q p M most tv T X ax cx))
      case atStart => exact ⟨0, [], [], none, 0, _, Nat.zero_le _, Nat.le_refl _, rfl, rfl, HST⟩
      case round =>
        clear HST
        obtain ⟨i, T, X, ax, cx, tv, hil, hkx, rfl, rfl, HP⟩ := hrel
        by_cases hlt : i < l.length
        · have hltz : (i : Int) < (l.length : Int) := by omega
          have hiz : (0 : Int) ≤ (i : Int) := by omega
          obtain ⟨b, off, rfl, hcell⟩ : ∃ b off, a = some ⟨b, off, none⟩ ∧ ∀ i, i < l.length → ∀ j, j < 9 → wr.cell? ⟨b, off + i * 9 + j, none⟩ = (adCells (nth l i))[j]? := by
            rcases HA.out.same adCells_len HP.out.B with rfl | ⟨b, off, rfl, hc⟩
            · simp at hlt
            · exact ⟨b, off, rfl, hc⟩
          obtain ⟨y0, y1, y2, y3, y4, y5, y6, y7, y8⟩ := ad_cells hcell i hlt
          have hx : IdOk (nth l i).x.id := hwf i hlt
          generalize (nth l i).k = k at *
          generalize (nth l i).now = now at *
          generalize (nth l i).x = x at *
          clear hcell
          obtain ⟨A, hAA⟩ : ∃ A, A = wr.heap.size := ⟨_, rfl⟩
          have HAA := Lib.hid hAA
          have BA := Lib.hid (show Below wr.heap.size wr (wr.alloc (.cells #[.int .i64 k, .int .i64 now, .int .i64 x.id, .int .i64 x.lev, .int .i64 x.frm, .int .i64 x.dl, .int .i64 x.bud, .int .i64 x.since, .int .i64 x.seq] 66)) from (Below.refl _ _).alloc (Nat.le_refl _) _)
          have VA := Lib.hid (show IsObj (wr.alloc (.cells #[.int .i64 k, .int .i64 now, .int .i64 x.id, .int .i64 x.lev, .int .i64 x.frm, .int .i64 x.dl, .int .i64 x.bud, .int .i64 x.since, .int .i64 x.seq] 66)) A 66 (adCells ⟨k, now, x⟩) by rw [hAA]; exact IsObj.new wr _ (adCells ⟨k, now, x⟩))
          have YA := Lib.hid (HP.out.Q.h.young hAA)
          clear hAA
          go_upto_region 11 with (fail)
          rw [← HAA.out]
          generalize wr.alloc (.cells #[.int .i64 k, .int .i64 now, .int .i64 x.id, .int .i64 x.lev, .int .i64 x.frm, .int .i64 x.dl, .int .i64 x.bud, .int .i64 x.since, .int .i64 x.seq] 66) = w1 at *
          have P1 := Lib.hid (HP.out.same BA.out)
          have VA1 := VA
          have h64m := h64
          have v0 : w1.cell? ⟨A, 0, none⟩ = some (.int .i64 k) := VA1.out.cell 0
          clear HP VA BA y0 y1 y2 y3 y4 y5 y6 y7 y8 h64 HAA
          go_upto_block 2 with (fail)
          clear v0
          go_cut [7] from 50 to 197 (fun s7 wx => ∃ (T X : List It) (ax : Option Addr) (cx : Nat) (tv : Value), s7 = .slice ax X.length cx ∧ Aside (QlAt w wx q p M most tv T X ax cx ∧ IsObj wx A 66 (adCells ⟨k, now, x⟩) ∧ A ≠ p ∧ A ≠ M ∧ some A ≠ tv.ownBlock))
          case first => exact qp_acts h0 h64m hx P1 VA1 YA (by assumption) (by assumption)
          case rest =>
          obtain ⟨T2, X2, ax2, cx2, tv2, rfl, HQ⟩ := hcut
          generalize wc = w5 at *
          clear P1 VA1 YA
          have v2 : w5.cell? ⟨A, 2, none⟩ = some (.int .i64 x.id) := HQ.out.2.1.cell 2
          have HP5 : Aside (QlAt w w5 q p M most tv2 T2 X2 ax2 cx2) := HQ.out.1
          clear HQ
          have hX64 := HP5.out.len
          have KA := Lib.hid (show ∀ W, Below w5.heap.size w5 W → Calls Try.prog 31 #[.pointer (some ⟨q, 0, none⟩)] W fun e w' => ∃ (a : Option Addr) (c : Nat), e = .returned (.slice a X2.length c) ∧ RowOf itCells 7 w' a X2 ∧ Below W.heap.size W w' from fun W hW => (qall_any (HP5.out.Q.same hW)).mono (by
            rintro e w' ⟨v, rfl, ho, hb⟩
            rw [HP5.out.m.all HP5.out.Q.h.nd] at ho
            obtain ⟨a, c, rfl, hr⟩ := own_row ho
            exact ⟨a, c, rfl, hr, hb⟩))
          have KR := Lib.hid (show ∀ W, Below w5.heap.size w5 W → Calls Try.prog 37 #[.pointer (some ⟨q, 0, none⟩)] W fun e w' => e = .returned (.int .i64 (most - X2.length)) ∧ Below W.heap.size W w' from fun W hW => by
            have h := qroom_at (HP5.out.Q.same hW) ⟨by omega, h64m⟩
            rw [← HP5.out.m.len] at h
            exact h)
          have KS := Lib.hid (show ∀ W a c, Below w5.heap.size w5 W → RowOf itCells 7 W a X2 → Calls Try.prog 20 #[.slice a X2.length c, .slice ax2 X2.length cx2] W fun e w' => e = .returned (.bool true) ∧ Below W.heap.size W w' from fun W a c hW hr => isame_eq a ax2 c cx2 X2 W (by omega) hr (HP5.out.r.same hW).row)
          have KF := Lib.hid (show ∀ W, Below w5.heap.size w5 W → Calls Try.prog 43 #[.slice ax2 X2.length cx2, .int .i64 x.id] W fun e w' => e = .returned (.int .i64 (fnd X2 x.id)) ∧ W = w' from fun W hW => rfind_any ax2 cx2 X2 x.id W (by omega) (HP5.out.r.same hW).row)
          have hmem := mem_ids HP5.out.m x.id
          obtain ⟨bh, fd, hfb, hfr, KH, hF⟩ : ∃ (bh : Bool) (fd : Int), bh = decide (0 ≤ fd) ∧ fnd X2 x.id = fd ∧ (∀ W, Below w5.heap.size w5 W → Calls Try.prog 42 #[.pointer (some ⟨q, 0, none⟩), .int .i64 x.id] W fun e w' => e = .returned (.bool bh) ∧ Below W.heap.size W w') ∧ True := by
            rcases fnd_law X2 x.id with ⟨hk, hn⟩ | ⟨j, hj, hk, hjid, _⟩
            · exact ⟨false, -1, rfl, hk, fun W hW => qhas_out x.id (HP5.out.Q.same hW) hx (fun hm => hn (hmem.2 hm)), trivial⟩
            · obtain ⟨n, hnT, hnid⟩ := mem_nth (hmem.1 (by rw [← hjid]; exact nth_mem hj))
              refine ⟨true, (j : Int), (decide_eq_true (by omega)).symm, hk, fun W hW => ?_, trivial⟩
              have h := qhas_in n (HP5.out.Q.same hW) hnT
              rw [hnid] at h
              exact h
          rw [hfr] at KF
          have KHH := Lib.hid KH
          clear KH hF hmem hfr
          have hwr : IntKind.i64.wrap (most - (X2.length : Int)) = most - (X2.length : Int) := IntWalk.i64_in _ (by omega)
          subst hfb
          go_wp2_with fail
          refine wp_region_held_drew (S := fun W => Below w5.heap.size w5 W) (by kernel_rfl) ?_ (fun hHeld => ?_)
          · (try dsimp only); first | assumption | exact (Below.refl _ _).drew
          refine wpAnyH_take (i := 0) (oi := ?oi1) (v := ?v1) ?hi1 (by kernel_rfl) (by kernel_rfl) (by kernel_rfl) ?hQ1 ?hy1 (by assumption) ?_
          case hi1 => (simp only [List.getElem?_toArray, List.getElem?_cons_succ, List.getElem?_cons_zero]; rfl)
          case hQ1 => exact fun _ _ _ h => h
          case hy1 => (refine Or.inl ⟨by rfl, ?_⟩; intro w hSw; (try dsimp only at hSw); have hz := cell_keep hSw v2; go_simp; try with_reducible rfl)
          try simp only [Act.put, List.setIfInBounds_toArray, List.set_cons_zero, List.set_cons_succ]
          refine wpAnyH_take (i := 2) (oi := ?oi2) (v := ?v2) ?hi2 (by kernel_rfl) (by kernel_rfl) (by kernel_rfl) ?hQ2 ?hy2 (by assumption) ?_
          case hi2 => (simp only [List.getElem?_toArray, List.getElem?_cons_succ, List.getElem?_cons_zero]; rfl)
          case hQ2 => exact fun _ _ _ h => h
          case hy2 => (refine Or.inl ⟨by rfl, ?_⟩; intro w hSw; (try dsimp only at hSw); have hz := cell_keep hSw v2; go_simp; try with_reducible rfl)
          try simp only [Act.put, List.setIfInBounds_toArray, List.set_cons_zero, List.set_cons_succ]
          refine wpAnyH_ready (rs := [1]) (by kernel_rfl) (by simp) ?_
          refine AllReadyH.cons (o := ?oi301) ?ho301 (fun K hK => ?_) AllReadyH.nil
          case ho301 => (simp only [List.getElem?_toArray, List.getElem?_cons_succ, List.getElem?_cons_zero]; rfl)
          go_simp
          go_at_call 31; (with_reducible refine (KA.out _ (by assumption)).mono ?_); rintro e wA ⟨aA, cA, rfl, hrA, hbA⟩; have hkA := below_go (by assumption) hbA
          refine hK.out _ _ ?_ (fun hHeld => ?_)
          · (try dsimp only); first | assumption | exact (Below.refl _ _).drew
          clear hK K
          try simp only [Act.put, List.setIfInBounds_toArray, List.set_cons_zero, List.set_cons_succ]
          refine wpAnyH_ready (rs := [3]) (by kernel_rfl) (by simp) ?_
          refine AllReadyH.cons (o := ?oi403) ?ho403 (fun K hK => ?_) AllReadyH.nil
          case ho403 => (simp only [List.getElem?_toArray, List.getElem?_cons_succ, List.getElem?_cons_zero]; rfl)
          go_simp
          go_at_call 20; (with_reducible refine (KS.out _ _ _ (by assumption) hrA).mono ?_); rintro e wS ⟨rfl, hbS⟩; have hkS := below_go (by assumption) hbS
          refine hK.out _ _ ?_ (fun hHeld => ?_)
          · (try dsimp only); first | assumption | exact (Below.refl _ _).drew
          clear hK K
          try simp only [Act.put, List.setIfInBounds_toArray, List.set_cons_zero, List.set_cons_succ]
          refine wpAnyH_take (i := 4) (oi := ?oi5) (v := ?v5) ?hi5 (by kernel_rfl) (by kernel_rfl) (by kernel_rfl) ?hQ5 ?hy5 (by assumption) ?_
          case hi5 => (simp only [List.getElem?_toArray, List.getElem?_cons_succ, List.getElem?_cons_zero]; rfl)
          case hQ5 => exact fun _ _ _ h => h
          case hy5 => (refine Or.inl ⟨by rfl, ?_⟩; intro w hSw; (try dsimp only at hSw); have hz := cell_keep hSw v2; go_simp; try with_reducible rfl)
          try simp only [Act.put, List.setIfInBounds_toArray, List.set_cons_zero, List.set_cons_succ]
          refine wpAnyH_take (i := 5) (oi := ?oi6) (v := ?v6) ?hi6 (by kernel_rfl) (by kernel_rfl) (by kernel_rfl) ?hQ6 ?hy6 (by assumption) ?_
          case hi6 => (simp only [List.getElem?_toArray, List.getElem?_cons_succ, List.getElem?_cons_zero]; rfl)
          case hQ6 => exact fun _ _ _ h => h
          case hy6 => (refine Or.inl ⟨by rfl, ?_⟩; intro w hSw; (try dsimp only at hSw); have hz := cell_keep hSw v2; go_simp; try with_reducible rfl)
          try simp only [Act.put, List.setIfInBounds_toArray, List.set_cons_zero, List.set_cons_succ]
          refine wpAnyH_take (i := 6) (oi := ?oi7) (v := ?v7) ?hi7 (by kernel_rfl) (by kernel_rfl) (by kernel_rfl) ?hQ7 ?hy7 (by assumption) ?_
          case hi7 => (simp only [List.getElem?_toArray, List.getElem?_cons_succ, List.getElem?_cons_zero]; rfl)
          case hQ7 => exact fun _ _ _ h => h
          case hy7 => (refine Or.inl ⟨by rfl, ?_⟩; intro w hSw; (try dsimp only at hSw); have hz := cell_keep hSw v2; go_simp; try with_reducible rfl)
          try simp only [Act.put, List.setIfInBounds_toArray, List.set_cons_zero, List.set_cons_succ]
          refine wpAnyH_take (i := 8) (oi := ?oi8) (v := ?v8) ?hi8 (by kernel_rfl) (by kernel_rfl) (by kernel_rfl) ?hQ8 ?hy8 (by assumption) ?_
          case hi8 => (simp only [List.getElem?_toArray, List.getElem?_cons_succ, List.getElem?_cons_zero]; rfl)
          case hQ8 => exact fun _ _ _ h => h
          case hy8 => (refine Or.inl ⟨by rfl, ?_⟩; intro w hSw; (try dsimp only at hSw); have hz := cell_keep hSw v2; go_simp; try with_reducible rfl)
          try simp only [Act.put, List.setIfInBounds_toArray, List.set_cons_zero, List.set_cons_succ]
          refine wpAnyH_take (i := 9) (oi := ?oi9) (v := ?v9) ?hi9 (by kernel_rfl) (by kernel_rfl) (by kernel_rfl) ?hQ9 ?hy9 (by assumption) ?_
          case hi9 => (simp only [List.getElem?_toArray, List.getElem?_cons_succ, List.getElem?_cons_zero]; rfl)
          case hQ9 => exact fun _ _ _ h => h
          case hy9 => (refine Or.inl ⟨by rfl, ?_⟩; intro w hSw; (try dsimp only at hSw); have hz := cell_keep hSw v2; go_simp; try with_reducible rfl)
          try simp only [Act.put, List.setIfInBounds_toArray, List.set_cons_zero, List.set_cons_succ]
          refine wpAnyH_take (i := 10) (oi := ?oi10) (v := ?v10) ?hi10 (by kernel_rfl) (by kernel_rfl) (by kernel_rfl) ?hQ10 ?hy10 (by assumption) ?_
          case hi10 => (simp only [List.getElem?_toArray, List.getElem?_cons_succ, List.getElem?_cons_zero]; rfl)
          case hQ10 => exact fun _ _ _ h => h
          case hy10 => (refine Or.inl ⟨by rfl, ?_⟩; intro w hSw; (try dsimp only at hSw); have hz := cell_keep hSw v2; go_simp; try with_reducible rfl)
          try simp only [Act.put, List.setIfInBounds_toArray, List.set_cons_zero, List.set_cons_succ]
          refine wpAnyH_take (i := 11) (oi := ?oi11) (v := ?v11) ?hi11 (by kernel_rfl) (by kernel_rfl) (by kernel_rfl) ?hQ11 ?hy11 (by assumption) ?_
          case hi11 => (simp only [List.getElem?_toArray, List.getElem?_cons_succ, List.getElem?_cons_zero]; rfl)
          case hQ11 => exact fun _ _ _ h => h
          case hy11 => (refine Or.inl ⟨by rfl, ?_⟩; intro w hSw; (try dsimp only at hSw); have hz := cell_keep hSw v2; go_simp; try with_reducible rfl)
          try simp only [Act.put, List.setIfInBounds_toArray, List.set_cons_zero, List.set_cons_succ]
          refine wpAnyH_ready (rs := [7]) (by kernel_rfl) (by simp) ?_
          refine AllReadyH.cons (o := ?oi1207) ?ho1207 (fun K hK => ?_) AllReadyH.nil
          case ho1207 => (simp only [List.getElem?_toArray, List.getElem?_cons_succ, List.getElem?_cons_zero]; rfl)
          go_simp
          go_at_call 37; (with_reducible refine (KR.out _ (by assumption)).mono ?_); rintro e wR ⟨rfl, hbR⟩; have hkR := below_go (by assumption) hbR
          refine hK.out _ _ ?_ (fun hHeld => ?_)
          · (try dsimp only); first | assumption | exact (Below.refl _ _).drew
          clear hK K
          try simp only [Act.put, List.setIfInBounds_toArray, List.set_cons_zero, List.set_cons_succ]
          refine wpAnyH_take (i := 12) (oi := ?oi13) (v := .bool false) ?hi13 (by kernel_rfl) (by kernel_rfl) (by kernel_rfl) ?hQ13 ?hy13 (by assumption) ?_
          case hi13 => (simp only [List.getElem?_toArray, List.getElem?_cons_succ, List.getElem?_cons_zero]; rfl)
          case hQ13 => exact fun _ _ _ h => h
          case hy13 => (refine Or.inl ⟨by rfl, ?_⟩; intro w hSw; (try dsimp only at hSw); go_simp; first | done | (with_reducible rfl) | exact hwr.symm)
          try simp only [Act.put, List.setIfInBounds_toArray, List.set_cons_zero, List.set_cons_succ]
          refine wpAnyH_take (i := 13) (oi := ?oi14) (v := ?v14) ?hi14 (by kernel_rfl) (by kernel_rfl) (by kernel_rfl) ?hQ14 ?hy14 (by assumption) ?_
          case hi14 => (simp only [List.getElem?_toArray, List.getElem?_cons_succ, List.getElem?_cons_zero]; rfl)
          case hQ14 => exact fun _ _ _ h => h
          case hy14 => (refine Or.inl ⟨by rfl, ?_⟩; intro w hSw; (try dsimp only at hSw); have hz := cell_keep hSw v2; go_simp; try with_reducible rfl)
          try simp only [Act.put, List.setIfInBounds_toArray, List.set_cons_zero, List.set_cons_succ]
          refine wpAnyH_take (i := 14) (oi := ?oi15) (v := ?v15) ?hi15 (by kernel_rfl) (by kernel_rfl) (by kernel_rfl) ?hQ15 ?hy15 (by assumption) ?_
          case hi15 => (simp only [List.getElem?_toArray, List.getElem?_cons_succ, List.getElem?_cons_zero]; rfl)
          case hQ15 => exact fun _ _ _ h => h
          case hy15 => (refine Or.inl ⟨by rfl, ?_⟩; intro w hSw; (try dsimp only at hSw); have hz := cell_keep hSw v2; go_simp; try with_reducible rfl)
          try simp only [Act.put, List.setIfInBounds_toArray, List.set_cons_zero, List.set_cons_succ]
          refine wpAnyH_take (i := 15) (oi := ?oi16) (v := ?v16) ?hi16 (by kernel_rfl) (by kernel_rfl) (by kernel_rfl) ?hQ16 ?hy16 (by assumption) ?_
          case hi16 => (simp only [List.getElem?_toArray, List.getElem?_cons_succ, List.getElem?_cons_zero]; rfl)
          case hQ16 => exact fun _ _ _ h => h
          case hy16 => (refine Or.inl ⟨by rfl, ?_⟩; intro w hSw; (try dsimp only at hSw); have hz := cell_keep hSw v2; go_simp; try with_reducible rfl)
          try simp only [Act.put, List.setIfInBounds_toArray, List.set_cons_zero, List.set_cons_succ]
          refine wpAnyH_take (i := 16) (oi := ?oi17) (v := ?v17) ?hi17 (by kernel_rfl) (by kernel_rfl) (by kernel_rfl) ?hQ17 ?hy17 (by assumption) ?_
          case hi17 => (simp only [List.getElem?_toArray, List.getElem?_cons_succ, List.getElem?_cons_zero]; rfl)
          case hQ17 => exact fun _ _ _ h => h
          case hy17 => (refine Or.inl ⟨by rfl, ?_⟩; intro w hSw; (try dsimp only at hSw); have hz := cell_keep hSw v2; go_simp; try with_reducible rfl)
          try simp only [Act.put, List.setIfInBounds_toArray, List.set_cons_zero, List.set_cons_succ]
          refine wpAnyH_take (i := 17) (oi := ?oi18) (v := ?v18) ?hi18 (by kernel_rfl) (by kernel_rfl) (by kernel_rfl) ?hQ18 ?hy18 (by assumption) ?_
          case hi18 => (simp only [List.getElem?_toArray, List.getElem?_cons_succ, List.getElem?_cons_zero]; rfl)
          case hQ18 => exact fun _ _ _ h => h
          case hy18 => (refine Or.inl ⟨by rfl, ?_⟩; intro w hSw; (try dsimp only at hSw); have hz := cell_keep hSw v2; go_simp; try with_reducible rfl)
          try simp only [Act.put, List.setIfInBounds_toArray, List.set_cons_zero, List.set_cons_succ]
          refine wpAnyH_take (i := 18) (oi := ?oi19) (v := ?v19) ?hi19 (by kernel_rfl) (by kernel_rfl) (by kernel_rfl) ?hQ19 ?hy19 (by assumption) ?_
          case hi19 => (simp only [List.getElem?_toArray, List.getElem?_cons_succ, List.getElem?_cons_zero]; rfl)
          case hQ19 => exact fun _ _ _ h => h
          case hy19 => (refine Or.inl ⟨by rfl, ?_⟩; intro w hSw; (try dsimp only at hSw); have hz := cell_keep hSw v2; go_simp; try with_reducible rfl)
          try simp only [Act.put, List.setIfInBounds_toArray, List.set_cons_zero, List.set_cons_succ]
          refine wpAnyH_take (i := 20) (oi := ?oi20) (v := ?v20) ?hi20 (by kernel_rfl) (by kernel_rfl) (by kernel_rfl) ?hQ20 ?hy20 (by assumption) ?_
          case hi20 => (simp only [List.getElem?_toArray, List.getElem?_cons_succ, List.getElem?_cons_zero]; rfl)
          case hQ20 => exact fun _ _ _ h => h
          case hy20 => (refine Or.inl ⟨by rfl, ?_⟩; intro w hSw; (try dsimp only at hSw); have hz := cell_keep hSw v2; go_simp; try with_reducible rfl)
          try simp only [Act.put, List.setIfInBounds_toArray, List.set_cons_zero, List.set_cons_succ]
          refine wpAnyH_take (i := 21) (oi := ?oi21) (v := ?v21) ?hi21 (by kernel_rfl) (by kernel_rfl) (by kernel_rfl) ?hQ21 ?hy21 (by assumption) ?_
          case hi21 => (simp only [List.getElem?_toArray, List.getElem?_cons_succ, List.getElem?_cons_zero]; rfl)
          case hQ21 => exact fun _ _ _ h => h
          case hy21 => (refine Or.inl ⟨by rfl, ?_⟩; intro w hSw; (try dsimp only at hSw); have hz := cell_keep hSw v2; go_simp; try with_reducible rfl)
          try simp only [Act.put, List.setIfInBounds_toArray, List.set_cons_zero, List.set_cons_succ]
          refine wpAnyH_take (i := 22) (oi := ?oi22) (v := ?v22) ?hi22 (by kernel_rfl) (by kernel_rfl) (by kernel_rfl) ?hQ22 ?hy22 (by assumption) ?_
          case hi22 => (simp only [List.getElem?_toArray, List.getElem?_cons_succ, List.getElem?_cons_zero]; rfl)
          case hQ22 => exact fun _ _ _ h => h
          case hy22 => (refine Or.inl ⟨by rfl, ?_⟩; intro w hSw; (try dsimp only at hSw); have hz := cell_keep hSw v2; go_simp; try with_reducible rfl)
          try simp only [Act.put, List.setIfInBounds_toArray, List.set_cons_zero, List.set_cons_succ]
          refine wpAnyH_take (i := 23) (oi := ?oi23) (v := ?v23) ?hi23 (by kernel_rfl) (by kernel_rfl) (by kernel_rfl) ?hQ23 ?hy23 (by assumption) ?_
          case hi23 => (simp only [List.getElem?_toArray, List.getElem?_cons_succ, List.getElem?_cons_zero]; rfl)
          case hQ23 => exact fun _ _ _ h => h
          case hy23 => (refine Or.inl ⟨by rfl, ?_⟩; intro w hSw; (try dsimp only at hSw); have hz := cell_keep hSw v2; go_simp; try with_reducible rfl)
          try simp only [Act.put, List.setIfInBounds_toArray, List.set_cons_zero, List.set_cons_succ]
          refine wpAnyH_ready (rs := [19]) (by kernel_rfl) (by simp) ?_
          refine AllReadyH.cons (o := ?oi2419) ?ho2419 (fun K hK => ?_) AllReadyH.nil
          case ho2419 => (simp only [List.getElem?_toArray, List.getElem?_cons_succ, List.getElem?_cons_zero]; rfl)
          go_simp
          go_at_call 42; (with_reducible refine (KHH.out _ (by assumption)).mono ?_); rintro e wH ⟨rfl, hbH⟩; have hkH := below_go (by assumption) hbH
          refine hK.out _ _ ?_ (fun hHeld => ?_)
          · (try dsimp only); first | assumption | exact (Below.refl _ _).drew
          clear hK K
          try simp only [Act.put, List.setIfInBounds_toArray, List.set_cons_zero, List.set_cons_succ]
          refine wpAnyH_ready (rs := [24]) (by kernel_rfl) (by simp) ?_
          refine AllReadyH.cons (o := ?oi2524) ?ho2524 (fun K hK => ?_) AllReadyH.nil
          case ho2524 => (simp only [List.getElem?_toArray, List.getElem?_cons_succ, List.getElem?_cons_zero]; rfl)
          go_simp
          go_at_call 43; (with_reducible refine (KF.out _ (by assumption)).mono ?_); rintro e wF ⟨rfl, rfl⟩
          refine hK.out _ _ ?_ (fun hHeld => ?_)
          · (try dsimp only); first | assumption | exact (Below.refl _ _).drew
          clear hK K
          try simp only [Act.put, List.setIfInBounds_toArray, List.set_cons_zero, List.set_cons_succ]
          refine wpAnyH_take (i := 25) (oi := ?oi26) (v := ?v26) ?hi26 (by kernel_rfl) (by kernel_rfl) (by kernel_rfl) ?hQ26 ?hy26 (by assumption) ?_
          case hi26 => (simp only [List.getElem?_toArray, List.getElem?_cons_succ, List.getElem?_cons_zero]; rfl)
          case hQ26 => exact fun _ _ _ h => h
          case hy26 => (refine Or.inl ⟨by rfl, ?_⟩; intro w hSw; (try dsimp only at hSw); have hz := cell_keep hSw v2; go_simp; try with_reducible rfl)
          try simp only [Act.put, List.setIfInBounds_toArray, List.set_cons_zero, List.set_cons_succ]
          refine wpAnyH_take (i := 26) (oi := ?oi27) (v := .bool false) ?hi27 (by kernel_rfl) (by kernel_rfl) (by kernel_rfl) ?hQ27 ?hy27 (by assumption) ?_
          case hi27 => (simp only [List.getElem?_toArray, List.getElem?_cons_succ, List.getElem?_cons_zero]; rfl)
          case hQ27 => exact fun _ _ _ h => h
          case hy27 => (refine Or.inl ⟨by rfl, ?_⟩; intro w hSw; (try dsimp only at hSw); go_simp; first | done | (with_reducible rfl) | exact hwr.symm)
          try simp only [Act.put, List.setIfInBounds_toArray, List.set_cons_zero, List.set_cons_succ]
          refine wpAnyH_take (i := 27) (oi := ?oi28) (v := ?v28) ?hi28 (by kernel_rfl) (by kernel_rfl) (by kernel_rfl) ?hQ28 ?hy28 (by assumption) ?_
          case hi28 => (simp only [List.getElem?_toArray, List.getElem?_cons_succ, List.getElem?_cons_zero]; rfl)
          case hQ28 => exact fun _ _ _ h => h
          case hy28 => (refine Or.inl ⟨by rfl, ?_⟩; intro w hSw; (try dsimp only at hSw); have hz := cell_keep hSw v2; go_simp; try with_reducible rfl)
          try simp only [Act.put, List.setIfInBounds_toArray, List.set_cons_zero, List.set_cons_succ]
          refine wpAnyH_done (by kernel_rfl) ?_ _
          have HP6 : Aside _ := HP5.out.same hkH
          clear hkH v2 hwr
          go_wp2_with fail
          go_roundg (l.length - (i + 1))
          case measure => omega
          case rel => exact ⟨i + 1, T2, X2, ax2, cx2, tv2, by omega, Nat.le_refl _, rfl, by first | rfl | go_num | (congr 1; omega), HP6⟩
        · obtain rfl : i = l.length := by omega
          go_wp2_with (go_at_call 29; refine (awake13 _).mono ?_; rintro e w1 ⟨rfl, hb⟩)
          go_ret
          exact ⟨rfl, HP.out.B.trans (hb.mono HP.out.B.size)⟩
theorem qplays_done : Walk 8 Try.f8 := by
  intro W args hs hc
  rw [Try.params8] at hs hc
  obtain ⟨l⟩ := args
  match l, hs with
  | [v0, v1], _ =>
    obtain ⟨most, rfl, _⟩ := came_int Try.underlying3 (hc 0 3 v0 rfl rfl)
    obtain ⟨a, c, l, rfl, g1, g2, hwf, hl⟩ := row_of_sl (k := 9) (cells := adCells) (fun a => IdOk a.x.id) (by omega) ad_ok (came_slice Try.underlying61 (ps := adShape) (by kernel_rfl) opens_ad (hc 1 61 v1 rfl rfl))
    exact qplays_walk most a c l W g1 g2 hwf hl
end Go.Proofs.Ytmanmebgmhpilaa
