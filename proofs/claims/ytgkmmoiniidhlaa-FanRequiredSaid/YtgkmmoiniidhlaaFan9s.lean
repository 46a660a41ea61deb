/-
  The statement FanRequired of layer 33 (fan), the one region that draws its order. Condition: the case.
-/
import Derived.Test.YtgkmmoiniidhlaaFan9
namespace Go.Proofs.Ytgkmmoiniidhlaa
open Go.RowKit
set_option linter.unusedVariables false
set_option linter.unusedSimpArgs false

set_option maxRecDepth 1000000 in
set_option maxHeartbeats 8000000 in
theorem reg17_0 {u1 u2 u3 u5 u6 u7 u8 u9 u10 u11 u14 u16 u17 u18 u19 u20 u21 u22 u23 u24 u25 u26 u27 u28 u29 u30 u31 u32 u33 u34 u35 u36 u37 u38 u39 u40 u41 u42 u43 u44 u45 u46 u47 u48 u49 u50 u51 u52 u53 u54 u55 u56 u57 u58 u59 u60 u61 u62 u63 u64 u65 u66 u67 u68 u69 u70 u71 u72 u73 u74 u75 u76 u77 u78 u79 u80 u81 u82 u83 u84 u85 u86 u87 u88 u89 u90 u91 u92 u93 u94 u95 u96 u97 u98 u99 u100 u101 u102 u103 u104 u105 u106 u107 u108 u109 u110 u111 u112 u113 u114 u115 u116 u117 u118 u119 u120 u121 u122 u123 u124 u125 u126 u127 u128 u129 u130 u131 u132 u133 u134 u135 u136 u137 u138 u139 u140 u141 u142 u143 u144 u145 u146 u147 u148 u149 u150 u151 u152 u153 u154 u155 u156 u157 u158 u159 u160 u161 u162 u163 u164 u165 u166 u167 u168 u169 u170 u171 u172 u173 u174 u175 u176 u177 u178 u179 u180 u181 u182 u183 u184 u185 u186 u187 u188 u189 u190 u191 u192 u193 u194 u195 u196 u197 u198 u199 u200 u201 u202 u203 : Value} {Q : Exit → Act → World → Prop} {W8 : World} {ba off H S k cap : Nat} {l : List Cl} {c : Cl} {x : Nw} (known : Bool) (dl bud : Int) (i1 : (0 : Int) ≤ (k : Int)) (i2 : (k : Int) < (l.length : Int)) (hr : (c.tier == 0) = false)
    (h8 : RegR W8 ba (off + k * 4) H S c x ⟨c.to, 0, dl, bud, false⟩ W8) (hQp : ∀ c (d : Nat) v a w, Q (.panic c) (Act.put a (some d) v) w → Q (.panic c) a w) (hQ : ∀ (t93 t94 t95 t96 t97 t98 t99 t100 t101 t102 t103 t104 t105 t106 t107 t108 t109 t110 t111 t112 t113 t114 t115 t116 t117 t118 t119 t120 t121 t122 t123 t124 t125 t126 t127 t128 t129 t130 t131 t132 t133 t134 t135 t136 t137 t138 t139 : Value) (W9 : World), RegR W8 ba (off + k * 4) H S c x ⟨c.to, 0, dl, bud, false⟩ W9 → Q .normal ⟨#[.slice (some ⟨ba, off, none⟩) l.length cap, u1, u2, u3, .pointer (some ⟨H, 0, none⟩), u5, u6, u7, u8, u9, u10, u11, .int .i64 k, .pointer (some ⟨S, 0, none⟩), u14, .bool known, u16, u17, u18, u19, u20, u21, u22, u23, u24, u25, u26, u27, u28, u29, u30, u31, u32, u33, u34, u35, u36, u37, u38, u39, u40, u41, u42, u43, u44, u45, u46, u47, u48, u49, u50, u51, u52, u53, u54, u55, u56, u57, u58, u59, u60, u61, u62, u63, u64, u65, u66, u67, u68, u69, u70, u71, u72, u73, u74, u75, u76, u77, u78, u79, u80, u81, u82, u83, u84, u85, u86, u87, u88, u89, u90, u91, u92, t93, t94, t95, t96, t97, t98, t99, t100, t101, t102, t103, t104, t105, t106, t107, t108, t109, t110, t111, t112, t113, t114, t115, t116, t117, t118, t119, t120, t121, t122, t123, t124, t125, t126, t127, t128, t129, t130, t131, t132, t133, t134, t135, t136, t137, t138, t139, .bool false, u141, u142, u143, u144, u145, u146, u147, u148, u149, u150, u151, u152, u153, u154, u155, u156, u157, u158, u159, u160, u161, u162, u163, u164, u165, u166, u167, u168, u169, u170, u171, u172, u173, u174, u175, u176, u177, u178, u179, u180, u181, u182, u183, u184, u185, u186, u187, u188, u189, u190, u191, u192, u193, u194, u195, u196, u197, u198, u199, u200, u201, u202, u203], []⟩ W9) :
    Code.wp Try.prog reg17 Q ⟨#[.slice (some ⟨ba, off, none⟩) l.length cap, u1, u2, u3, .pointer (some ⟨H, 0, none⟩), u5, u6, u7, u8, u9, u10, u11, .int .i64 k, .pointer (some ⟨S, 0, none⟩), u14, .bool known, u16, u17, u18, u19, u20, u21, u22, u23, u24, u25, u26, u27, u28, u29, u30, u31, u32, u33, u34, u35, u36, u37, u38, u39, u40, u41, u42, u43, u44, u45, u46, u47, u48, u49, u50, u51, u52, u53, u54, u55, u56, u57, u58, u59, u60, u61, u62, u63, u64, u65, u66, u67, u68, u69, u70, u71, u72, u73, u74, u75, u76, u77, u78, u79, u80, u81, u82, u83, u84, u85, u86, u87, u88, u89, u90, u91, u92, u93, u94, u95, u96, u97, u98, u99, u100, u101, u102, u103, u104, u105, u106, u107, u108, u109, u110, u111, u112, u113, u114, u115, u116, u117, u118, u119, u120, u121, u122, u123, u124, u125, u126, u127, u128, u129, u130, u131, u132, u133, u134, u135, u136, u137, u138, u139, u140, u141, u142, u143, u144, u145, u146, u147, u148, u149, u150, u151, u152, u153, u154, u155, u156, u157, u158, u159, u160, u161, u162, u163, u164, u165, u166, u167, u168, u169, u170, u171, u172, u173, u174, u175, u176, u177, u178, u179, u180, u181, u182, u183, u184, u185, u186, u187, u188, u189, u190, u191, u192, u193, u194, u195, u196, u197, u198, u199, u200, u201, u202, u203], []⟩ W8 := by
  conv => arg 2; whnf
  refine wp_region_held_drew (S := fun W => RegR W8 ba (off + k * 4) H S c x ⟨c.to, 0, dl, bud, false⟩ W) (by kernel_rfl) ?_ (fun hHeld => ?_)
  · (try dsimp only); exact h8.keep (Below.refl _ _).drew
  refine wpAnyH_take (i := 0) (oi := ?oi97) (v := ?v97) ?hi97 (by kernel_rfl) (by kernel_rfl) (by kernel_rfl) ?hQ97 ?hy97 (by assumption) ?_
  case hi97 => (simp only [List.getElem?_toArray, List.getElem?_cons_succ, List.getElem?_cons_zero]; rfl)
  case hQ97 => exact fun _ _ _ h => hQp _ _ _ _ _ h
  case hy97 => (refine Or.inl ⟨by rfl, ?_⟩; intro w hSw; obtain ⟨d0, d1, e0, e1, e2, e3, m0, m1, m2, m3, m4, _⟩ := hSw; go_simp; try with_reducible rfl)
  try simp only [Act.put, List.setIfInBounds_toArray, List.set_cons_zero, List.set_cons_succ]
  refine wpAnyH_take (i := 1) (oi := ?oi98) (v := ?v98) ?hi98 (by kernel_rfl) (by kernel_rfl) (by kernel_rfl) ?hQ98 ?hy98 (by assumption) ?_
  case hi98 => (simp only [List.getElem?_toArray, List.getElem?_cons_succ, List.getElem?_cons_zero]; rfl)
  case hQ98 => exact fun _ _ _ h => hQp _ _ _ _ _ h
  case hy98 => (refine Or.inl ⟨by rfl, ?_⟩; intro w hSw; obtain ⟨d0, d1, e0, e1, e2, e3, m0, m1, m2, m3, m4, _⟩ := hSw; go_simp; try with_reducible rfl)
  try simp only [Act.put, List.setIfInBounds_toArray, List.set_cons_zero, List.set_cons_succ]
  refine wpAnyH_take (i := 2) (oi := ?oi99) (v := ?v99) ?hi99 (by kernel_rfl) (by kernel_rfl) (by kernel_rfl) ?hQ99 ?hy99 (by assumption) ?_
  case hi99 => (simp only [List.getElem?_toArray, List.getElem?_cons_succ, List.getElem?_cons_zero]; rfl)
  case hQ99 => exact fun _ _ _ h => hQp _ _ _ _ _ h
  case hy99 => (refine Or.inl ⟨by rfl, ?_⟩; intro w hSw; obtain ⟨d0, d1, e0, e1, e2, e3, m0, m1, m2, m3, m4, _⟩ := hSw; go_simp; try with_reducible rfl)
  try simp only [Act.put, List.setIfInBounds_toArray, List.set_cons_zero, List.set_cons_succ]
  refine wpAnyH_take (i := 3) (oi := ?oi100) (v := ?v100) ?hi100 (by kernel_rfl) (by kernel_rfl) (by kernel_rfl) ?hQ100 ?hy100 (by assumption) ?_
  case hi100 => (simp only [List.getElem?_toArray, List.getElem?_cons_succ, List.getElem?_cons_zero]; rfl)
  case hQ100 => exact fun _ _ _ h => hQp _ _ _ _ _ h
  case hy100 => (refine Or.inl ⟨by rfl, ?_⟩; intro w hSw; obtain ⟨d0, d1, e0, e1, e2, e3, m0, m1, m2, m3, m4, _⟩ := hSw; go_simp; try with_reducible rfl)
  try simp only [Act.put, List.setIfInBounds_toArray, List.set_cons_zero, List.set_cons_succ]
  refine wpAnyH_take (i := 4) (oi := ?oi101) (v := ?v101) ?hi101 (by kernel_rfl) (by kernel_rfl) (by kernel_rfl) ?hQ101 ?hy101 (by assumption) ?_
  case hi101 => (simp only [List.getElem?_toArray, List.getElem?_cons_succ, List.getElem?_cons_zero]; rfl)
  case hQ101 => exact fun _ _ _ h => hQp _ _ _ _ _ h
  case hy101 => (refine Or.inl ⟨by rfl, ?_⟩; intro w hSw; obtain ⟨d0, d1, e0, e1, e2, e3, m0, m1, m2, m3, m4, _⟩ := hSw; go_simp; try with_reducible rfl)
  try simp only [Act.put, List.setIfInBounds_toArray, List.set_cons_zero, List.set_cons_succ]
  refine wpAnyH_take (i := 5) (oi := ?oi102) (v := ?v102) ?hi102 (by kernel_rfl) (by kernel_rfl) (by kernel_rfl) ?hQ102 ?hy102 (by assumption) ?_
  case hi102 => (simp only [List.getElem?_toArray, List.getElem?_cons_succ, List.getElem?_cons_zero]; rfl)
  case hQ102 => exact fun _ _ _ h => hQp _ _ _ _ _ h
  case hy102 => (refine Or.inl ⟨by rfl, ?_⟩; intro w hSw; obtain ⟨d0, d1, e0, e1, e2, e3, m0, m1, m2, m3, m4, _⟩ := hSw; go_simp; try with_reducible rfl)
  try simp only [Act.put, List.setIfInBounds_toArray, List.set_cons_zero, List.set_cons_succ]
  refine wpAnyH_take (i := 6) (oi := ?oi103) (v := ?v103) ?hi103 (by kernel_rfl) (by kernel_rfl) (by kernel_rfl) ?hQ103 ?hy103 (by assumption) ?_
  case hi103 => (simp only [List.getElem?_toArray, List.getElem?_cons_succ, List.getElem?_cons_zero]; rfl)
  case hQ103 => exact fun _ _ _ h => hQp _ _ _ _ _ h
  case hy103 => (refine Or.inl ⟨by rfl, ?_⟩; intro w hSw; obtain ⟨d0, d1, e0, e1, e2, e3, m0, m1, m2, m3, m4, _⟩ := hSw; go_simp; try with_reducible rfl)
  try simp only [Act.put, List.setIfInBounds_toArray, List.set_cons_zero, List.set_cons_succ]
  refine wpAnyH_take (i := 7) (oi := ?oi104) (v := ?v104) ?hi104 (by kernel_rfl) (by kernel_rfl) (by kernel_rfl) ?hQ104 ?hy104 (by assumption) ?_
  case hi104 => (simp only [List.getElem?_toArray, List.getElem?_cons_succ, List.getElem?_cons_zero]; rfl)
  case hQ104 => exact fun _ _ _ h => hQp _ _ _ _ _ h
  case hy104 => (refine Or.inl ⟨by rfl, ?_⟩; intro w hSw; obtain ⟨d0, d1, e0, e1, e2, e3, m0, m1, m2, m3, m4, _⟩ := hSw; go_simp; try with_reducible rfl)
  try simp only [Act.put, List.setIfInBounds_toArray, List.set_cons_zero, List.set_cons_succ]
  refine wpAnyH_take (i := 8) (oi := ?oi105) (v := ?v105) ?hi105 (by kernel_rfl) (by kernel_rfl) (by kernel_rfl) ?hQ105 ?hy105 (by assumption) ?_
  case hi105 => (simp only [List.getElem?_toArray, List.getElem?_cons_succ, List.getElem?_cons_zero]; rfl)
  case hQ105 => exact fun _ _ _ h => hQp _ _ _ _ _ h
  case hy105 => (refine Or.inl ⟨by rfl, ?_⟩; intro w hSw; obtain ⟨d0, d1, e0, e1, e2, e3, m0, m1, m2, m3, m4, _⟩ := hSw; go_simp; try with_reducible rfl)
  try simp only [Act.put, List.setIfInBounds_toArray, List.set_cons_zero, List.set_cons_succ]
  refine wpAnyH_take (i := 9) (oi := ?oi106) (v := ?v106) ?hi106 (by kernel_rfl) (by kernel_rfl) (by kernel_rfl) ?hQ106 ?hy106 (by assumption) ?_
  case hi106 => (simp only [List.getElem?_toArray, List.getElem?_cons_succ, List.getElem?_cons_zero]; rfl)
  case hQ106 => exact fun _ _ _ h => hQp _ _ _ _ _ h
  case hy106 => (refine Or.inl ⟨by rfl, ?_⟩; intro w hSw; obtain ⟨d0, d1, e0, e1, e2, e3, m0, m1, m2, m3, m4, _⟩ := hSw; go_simp; try with_reducible rfl)
  try simp only [Act.put, List.setIfInBounds_toArray, List.set_cons_zero, List.set_cons_succ]
  refine wpAnyH_take (i := 10) (oi := ?oi107) (v := ?v107) ?hi107 (by kernel_rfl) (by kernel_rfl) (by kernel_rfl) ?hQ107 ?hy107 (by assumption) ?_
  case hi107 => (simp only [List.getElem?_toArray, List.getElem?_cons_succ, List.getElem?_cons_zero]; rfl)
  case hQ107 => exact fun _ _ _ h => hQp _ _ _ _ _ h
  case hy107 => (refine Or.inl ⟨by rfl, ?_⟩; intro w hSw; obtain ⟨d0, d1, e0, e1, e2, e3, m0, m1, m2, m3, m4, _⟩ := hSw; go_simp; try with_reducible rfl)
  try simp only [Act.put, List.setIfInBounds_toArray, List.set_cons_zero, List.set_cons_succ]
  refine wpAnyH_take (i := 11) (oi := ?oi108) (v := ?v108) ?hi108 (by kernel_rfl) (by kernel_rfl) (by kernel_rfl) ?hQ108 ?hy108 (by assumption) ?_
  case hi108 => (simp only [List.getElem?_toArray, List.getElem?_cons_succ, List.getElem?_cons_zero]; rfl)
  case hQ108 => exact fun _ _ _ h => hQp _ _ _ _ _ h
  case hy108 => (refine Or.inl ⟨by rfl, ?_⟩; intro w hSw; obtain ⟨d0, d1, e0, e1, e2, e3, m0, m1, m2, m3, m4, _⟩ := hSw; go_simp; try with_reducible rfl)
  try simp only [Act.put, List.setIfInBounds_toArray, List.set_cons_zero, List.set_cons_succ]
  refine wpAnyH_take (i := 12) (oi := ?oi109) (v := ?v109) ?hi109 (by kernel_rfl) (by kernel_rfl) (by kernel_rfl) ?hQ109 ?hy109 (by assumption) ?_
  case hi109 => (simp only [List.getElem?_toArray, List.getElem?_cons_succ, List.getElem?_cons_zero]; rfl)
  case hQ109 => exact fun _ _ _ h => hQp _ _ _ _ _ h
  case hy109 => (refine Or.inl ⟨by rfl, ?_⟩; intro w hSw; obtain ⟨d0, d1, e0, e1, e2, e3, m0, m1, m2, m3, m4, _⟩ := hSw; go_simp; try with_reducible rfl)
  try simp only [Act.put, List.setIfInBounds_toArray, List.set_cons_zero, List.set_cons_succ]
  refine wpAnyH_take (i := 13) (oi := ?oi110) (v := ?v110) ?hi110 (by kernel_rfl) (by kernel_rfl) (by kernel_rfl) ?hQ110 ?hy110 (by assumption) ?_
  case hi110 => (simp only [List.getElem?_toArray, List.getElem?_cons_succ, List.getElem?_cons_zero]; rfl)
  case hQ110 => exact fun _ _ _ h => hQp _ _ _ _ _ h
  case hy110 => (refine Or.inl ⟨by rfl, ?_⟩; intro w hSw; obtain ⟨d0, d1, e0, e1, e2, e3, m0, m1, m2, m3, m4, _⟩ := hSw; go_simp; try with_reducible rfl)
  try simp only [Act.put, List.setIfInBounds_toArray, List.set_cons_zero, List.set_cons_succ]
  refine wpAnyH_take (i := 14) (oi := ?oi111) (v := ?v111) ?hi111 (by kernel_rfl) (by kernel_rfl) (by kernel_rfl) ?hQ111 ?hy111 (by assumption) ?_
  case hi111 => (simp only [List.getElem?_toArray, List.getElem?_cons_succ, List.getElem?_cons_zero]; rfl)
  case hQ111 => exact fun _ _ _ h => hQp _ _ _ _ _ h
  case hy111 => (refine Or.inl ⟨by rfl, ?_⟩; intro w hSw; obtain ⟨d0, d1, e0, e1, e2, e3, m0, m1, m2, m3, m4, _⟩ := hSw; go_simp; try with_reducible rfl)
  try simp only [Act.put, List.setIfInBounds_toArray, List.set_cons_zero, List.set_cons_succ]
  refine wpAnyH_take (i := 15) (oi := ?oi112) (v := ?v112) ?hi112 (by kernel_rfl) (by kernel_rfl) (by kernel_rfl) ?hQ112 ?hy112 (by assumption) ?_
  case hi112 => (simp only [List.getElem?_toArray, List.getElem?_cons_succ, List.getElem?_cons_zero]; rfl)
  case hQ112 => exact fun _ _ _ h => hQp _ _ _ _ _ h
  case hy112 => (refine Or.inl ⟨by rfl, ?_⟩; intro w hSw; obtain ⟨d0, d1, e0, e1, e2, e3, m0, m1, m2, m3, m4, _⟩ := hSw; go_simp; try with_reducible rfl)
  try simp only [Act.put, List.setIfInBounds_toArray, List.set_cons_zero, List.set_cons_succ]
  refine wpAnyH_take (i := 16) (oi := ?oi113) (v := ?v113) ?hi113 (by kernel_rfl) (by kernel_rfl) (by kernel_rfl) ?hQ113 ?hy113 (by assumption) ?_
  case hi113 => (simp only [List.getElem?_toArray, List.getElem?_cons_succ, List.getElem?_cons_zero]; rfl)
  case hQ113 => exact fun _ _ _ h => hQp _ _ _ _ _ h
  case hy113 => (refine Or.inl ⟨by rfl, ?_⟩; intro w hSw; obtain ⟨d0, d1, e0, e1, e2, e3, m0, m1, m2, m3, m4, _⟩ := hSw; go_simp; try with_reducible rfl)
  try simp only [Act.put, List.setIfInBounds_toArray, List.set_cons_zero, List.set_cons_succ]
  refine wpAnyH_take (i := 17) (oi := ?oi114) (v := ?v114) ?hi114 (by kernel_rfl) (by kernel_rfl) (by kernel_rfl) ?hQ114 ?hy114 (by assumption) ?_
  case hi114 => (simp only [List.getElem?_toArray, List.getElem?_cons_succ, List.getElem?_cons_zero]; rfl)
  case hQ114 => exact fun _ _ _ h => hQp _ _ _ _ _ h
  case hy114 => (refine Or.inl ⟨by rfl, ?_⟩; intro w hSw; obtain ⟨d0, d1, e0, e1, e2, e3, m0, m1, m2, m3, m4, _⟩ := hSw; go_simp; try with_reducible rfl)
  try simp only [Act.put, List.setIfInBounds_toArray, List.set_cons_zero, List.set_cons_succ]
  refine wpAnyH_take (i := 18) (oi := ?oi115) (v := ?v115) ?hi115 (by kernel_rfl) (by kernel_rfl) (by kernel_rfl) ?hQ115 ?hy115 (by assumption) ?_
  case hi115 => (simp only [List.getElem?_toArray, List.getElem?_cons_succ, List.getElem?_cons_zero]; rfl)
  case hQ115 => exact fun _ _ _ h => hQp _ _ _ _ _ h
  case hy115 => (refine Or.inl ⟨by rfl, ?_⟩; intro w hSw; obtain ⟨d0, d1, e0, e1, e2, e3, m0, m1, m2, m3, m4, _⟩ := hSw; go_simp; try with_reducible rfl)
  try simp only [Act.put, List.setIfInBounds_toArray, List.set_cons_zero, List.set_cons_succ]
  refine wpAnyH_take (i := 19) (oi := ?oi116) (v := ?v116) ?hi116 (by kernel_rfl) (by kernel_rfl) (by kernel_rfl) ?hQ116 ?hy116 (by assumption) ?_
  case hi116 => (simp only [List.getElem?_toArray, List.getElem?_cons_succ, List.getElem?_cons_zero]; rfl)
  case hQ116 => exact fun _ _ _ h => hQp _ _ _ _ _ h
  case hy116 => (refine Or.inl ⟨by rfl, ?_⟩; intro w hSw; obtain ⟨d0, d1, e0, e1, e2, e3, m0, m1, m2, m3, m4, _⟩ := hSw; go_simp; try with_reducible rfl)
  try simp only [Act.put, List.setIfInBounds_toArray, List.set_cons_zero, List.set_cons_succ]
  refine wpAnyH_take (i := 20) (oi := ?oi117) (v := ?v117) ?hi117 (by kernel_rfl) (by kernel_rfl) (by kernel_rfl) ?hQ117 ?hy117 (by assumption) ?_
  case hi117 => (simp only [List.getElem?_toArray, List.getElem?_cons_succ, List.getElem?_cons_zero]; rfl)
  case hQ117 => exact fun _ _ _ h => hQp _ _ _ _ _ h
  case hy117 => (refine Or.inl ⟨by rfl, ?_⟩; intro w hSw; obtain ⟨d0, d1, e0, e1, e2, e3, m0, m1, m2, m3, m4, _⟩ := hSw; go_simp; try with_reducible rfl)
  try simp only [Act.put, List.setIfInBounds_toArray, List.set_cons_zero, List.set_cons_succ]
  refine wpAnyH_take (i := 21) (oi := ?oi118) (v := ?v118) ?hi118 (by kernel_rfl) (by kernel_rfl) (by kernel_rfl) ?hQ118 ?hy118 (by assumption) ?_
  case hi118 => (simp only [List.getElem?_toArray, List.getElem?_cons_succ, List.getElem?_cons_zero]; rfl)
  case hQ118 => exact fun _ _ _ h => hQp _ _ _ _ _ h
  case hy118 => (refine Or.inl ⟨by rfl, ?_⟩; intro w hSw; obtain ⟨d0, d1, e0, e1, e2, e3, m0, m1, m2, m3, m4, _⟩ := hSw; go_simp; try with_reducible rfl)
  try simp only [Act.put, List.setIfInBounds_toArray, List.set_cons_zero, List.set_cons_succ]
  refine wpAnyH_take (i := 22) (oi := ?oi119) (v := ?v119) ?hi119 (by kernel_rfl) (by kernel_rfl) (by kernel_rfl) ?hQ119 ?hy119 (by assumption) ?_
  case hi119 => (simp only [List.getElem?_toArray, List.getElem?_cons_succ, List.getElem?_cons_zero]; rfl)
  case hQ119 => exact fun _ _ _ h => hQp _ _ _ _ _ h
  case hy119 => (refine Or.inl ⟨by rfl, ?_⟩; intro w hSw; obtain ⟨d0, d1, e0, e1, e2, e3, m0, m1, m2, m3, m4, _⟩ := hSw; go_simp; try with_reducible rfl)
  try simp only [Act.put, List.setIfInBounds_toArray, List.set_cons_zero, List.set_cons_succ]
  refine wpAnyH_take (i := 23) (oi := ?oi120) (v := undef) ?hi120 (by kernel_rfl) (by kernel_rfl) (by kernel_rfl) ?hQ120 ?hy120 (by assumption) ?_
  case hi120 => (simp only [List.getElem?_toArray, List.getElem?_cons_succ, List.getElem?_cons_zero]; rfl)
  case hQ120 => exact fun _ _ _ h => hQp _ _ _ _ _ h
  case hy120 => exact Or.inr ⟨by rfl, rfl⟩
  try simp only [Act.put, List.setIfInBounds_toArray, List.set_cons_zero, List.set_cons_succ]
  refine wpAnyH_take (i := 24) (oi := ?oi121) (v := undef) ?hi121 (by kernel_rfl) (by kernel_rfl) (by kernel_rfl) ?hQ121 ?hy121 (by assumption) ?_
  case hi121 => (simp only [List.getElem?_toArray, List.getElem?_cons_succ, List.getElem?_cons_zero]; rfl)
  case hQ121 => exact fun _ _ _ h => hQp _ _ _ _ _ h
  case hy121 => exact Or.inr ⟨by rfl, rfl⟩
  try simp only [Act.put, List.setIfInBounds_toArray, List.set_cons_zero, List.set_cons_succ]
  refine wpAnyH_take (i := 25) (oi := ?oi122) (v := undef) ?hi122 (by kernel_rfl) (by kernel_rfl) (by kernel_rfl) ?hQ122 ?hy122 (by assumption) ?_
  case hi122 => (simp only [List.getElem?_toArray, List.getElem?_cons_succ, List.getElem?_cons_zero]; rfl)
  case hQ122 => exact fun _ _ _ h => hQp _ _ _ _ _ h
  case hy122 => exact Or.inr ⟨by rfl, rfl⟩
  try simp only [Act.put, List.setIfInBounds_toArray, List.set_cons_zero, List.set_cons_succ]
  refine wpAnyH_take (i := 26) (oi := ?oi123) (v := ?v123) ?hi123 (by kernel_rfl) (by kernel_rfl) (by kernel_rfl) ?hQ123 ?hy123 (by assumption) ?_
  case hi123 => (simp only [List.getElem?_toArray, List.getElem?_cons_succ, List.getElem?_cons_zero]; rfl)
  case hQ123 => exact fun _ _ _ h => hQp _ _ _ _ _ h
  case hy123 => (refine Or.inl ⟨by rfl, ?_⟩; intro w hSw; obtain ⟨d0, d1, e0, e1, e2, e3, m0, m1, m2, m3, m4, _⟩ := hSw; go_simp; try with_reducible rfl)
  try simp only [Act.put, List.setIfInBounds_toArray, List.set_cons_zero, List.set_cons_succ]
  refine wpAnyH_take (i := 27) (oi := ?oi124) (v := ?v124) ?hi124 (by kernel_rfl) (by kernel_rfl) (by kernel_rfl) ?hQ124 ?hy124 (by assumption) ?_
  case hi124 => (simp only [List.getElem?_toArray, List.getElem?_cons_succ, List.getElem?_cons_zero]; rfl)
  case hQ124 => exact fun _ _ _ h => hQp _ _ _ _ _ h
  case hy124 => (refine Or.inl ⟨by rfl, ?_⟩; intro w hSw; obtain ⟨d0, d1, e0, e1, e2, e3, m0, m1, m2, m3, m4, _⟩ := hSw; go_simp; try with_reducible rfl)
  try simp only [Act.put, List.setIfInBounds_toArray, List.set_cons_zero, List.set_cons_succ]
  refine wpAnyH_take (i := 28) (oi := ?oi125) (v := ?v125) ?hi125 (by kernel_rfl) (by kernel_rfl) (by kernel_rfl) ?hQ125 ?hy125 (by assumption) ?_
  case hi125 => (simp only [List.getElem?_toArray, List.getElem?_cons_succ, List.getElem?_cons_zero]; rfl)
  case hQ125 => exact fun _ _ _ h => hQp _ _ _ _ _ h
  case hy125 => (refine Or.inl ⟨by rfl, ?_⟩; intro w hSw; obtain ⟨d0, d1, e0, e1, e2, e3, m0, m1, m2, m3, m4, _⟩ := hSw; go_simp; try with_reducible rfl)
  try simp only [Act.put, List.setIfInBounds_toArray, List.set_cons_zero, List.set_cons_succ]
  refine wpAnyH_take (i := 29) (oi := ?oi126) (v := ?v126) ?hi126 (by kernel_rfl) (by kernel_rfl) (by kernel_rfl) ?hQ126 ?hy126 (by assumption) ?_
  case hi126 => (simp only [List.getElem?_toArray, List.getElem?_cons_succ, List.getElem?_cons_zero]; rfl)
  case hQ126 => exact fun _ _ _ h => hQp _ _ _ _ _ h
  case hy126 => (refine Or.inl ⟨by rfl, ?_⟩; intro w hSw; obtain ⟨d0, d1, e0, e1, e2, e3, m0, m1, m2, m3, m4, _⟩ := hSw; go_simp; try with_reducible rfl)
  try simp only [Act.put, List.setIfInBounds_toArray, List.set_cons_zero, List.set_cons_succ]
  refine wpAnyH_take (i := 30) (oi := ?oi127) (v := ?v127) ?hi127 (by kernel_rfl) (by kernel_rfl) (by kernel_rfl) ?hQ127 ?hy127 (by assumption) ?_
  case hi127 => (simp only [List.getElem?_toArray, List.getElem?_cons_succ, List.getElem?_cons_zero]; rfl)
  case hQ127 => exact fun _ _ _ h => hQp _ _ _ _ _ h
  case hy127 => (refine Or.inl ⟨by rfl, ?_⟩; intro w hSw; obtain ⟨d0, d1, e0, e1, e2, e3, m0, m1, m2, m3, m4, _⟩ := hSw; go_simp; try with_reducible rfl)
  try simp only [Act.put, List.setIfInBounds_toArray, List.set_cons_zero, List.set_cons_succ]
  refine wpAnyH_take (i := 31) (oi := ?oi128) (v := ?v128) ?hi128 (by kernel_rfl) (by kernel_rfl) (by kernel_rfl) ?hQ128 ?hy128 (by assumption) ?_
  case hi128 => (simp only [List.getElem?_toArray, List.getElem?_cons_succ, List.getElem?_cons_zero]; rfl)
  case hQ128 => exact fun _ _ _ h => hQp _ _ _ _ _ h
  case hy128 => (refine Or.inl ⟨by rfl, ?_⟩; intro w hSw; obtain ⟨d0, d1, e0, e1, e2, e3, m0, m1, m2, m3, m4, _⟩ := hSw; go_simp; try with_reducible rfl)
  try simp only [Act.put, List.setIfInBounds_toArray, List.set_cons_zero, List.set_cons_succ]
  refine wpAnyH_take (i := 32) (oi := ?oi129) (v := ?v129) ?hi129 (by kernel_rfl) (by kernel_rfl) (by kernel_rfl) ?hQ129 ?hy129 (by assumption) ?_
  case hi129 => (simp only [List.getElem?_toArray, List.getElem?_cons_succ, List.getElem?_cons_zero]; rfl)
  case hQ129 => exact fun _ _ _ h => hQp _ _ _ _ _ h
  case hy129 => (refine Or.inl ⟨by rfl, ?_⟩; intro w hSw; obtain ⟨d0, d1, e0, e1, e2, e3, m0, m1, m2, m3, m4, _⟩ := hSw; go_simp; try with_reducible rfl)
  try simp only [Act.put, List.setIfInBounds_toArray, List.set_cons_zero, List.set_cons_succ]
  refine wpAnyH_take (i := 33) (oi := ?oi130) (v := undef) ?hi130 (by kernel_rfl) (by kernel_rfl) (by kernel_rfl) ?hQ130 ?hy130 (by assumption) ?_
  case hi130 => (simp only [List.getElem?_toArray, List.getElem?_cons_succ, List.getElem?_cons_zero]; rfl)
  case hQ130 => exact fun _ _ _ h => hQp _ _ _ _ _ h
  case hy130 => exact Or.inr ⟨by rfl, rfl⟩
  try simp only [Act.put, List.setIfInBounds_toArray, List.set_cons_zero, List.set_cons_succ]
  refine wpAnyH_take (i := 34) (oi := ?oi131) (v := undef) ?hi131 (by kernel_rfl) (by kernel_rfl) (by kernel_rfl) ?hQ131 ?hy131 (by assumption) ?_
  case hi131 => (simp only [List.getElem?_toArray, List.getElem?_cons_succ, List.getElem?_cons_zero]; rfl)
  case hQ131 => exact fun _ _ _ h => hQp _ _ _ _ _ h
  case hy131 => exact Or.inr ⟨by rfl, rfl⟩
  try simp only [Act.put, List.setIfInBounds_toArray, List.set_cons_zero, List.set_cons_succ]
  refine wpAnyH_take (i := 35) (oi := ?oi132) (v := undef) ?hi132 (by kernel_rfl) (by kernel_rfl) (by kernel_rfl) ?hQ132 ?hy132 (by assumption) ?_
  case hi132 => (simp only [List.getElem?_toArray, List.getElem?_cons_succ, List.getElem?_cons_zero]; rfl)
  case hQ132 => exact fun _ _ _ h => hQp _ _ _ _ _ h
  case hy132 => exact Or.inr ⟨by rfl, rfl⟩
  try simp only [Act.put, List.setIfInBounds_toArray, List.set_cons_zero, List.set_cons_succ]
  refine wpAnyH_take (i := 36) (oi := ?oi133) (v := undef) ?hi133 (by kernel_rfl) (by kernel_rfl) (by kernel_rfl) ?hQ133 ?hy133 (by assumption) ?_
  case hi133 => (simp only [List.getElem?_toArray, List.getElem?_cons_succ, List.getElem?_cons_zero]; rfl)
  case hQ133 => exact fun _ _ _ h => hQp _ _ _ _ _ h
  case hy133 => exact Or.inr ⟨by rfl, rfl⟩
  try simp only [Act.put, List.setIfInBounds_toArray, List.set_cons_zero, List.set_cons_succ]
  refine wpAnyH_take (i := 37) (oi := ?oi134) (v := undef) ?hi134 (by kernel_rfl) (by kernel_rfl) (by kernel_rfl) ?hQ134 ?hy134 (by assumption) ?_
  case hi134 => (simp only [List.getElem?_toArray, List.getElem?_cons_succ, List.getElem?_cons_zero]; rfl)
  case hQ134 => exact fun _ _ _ h => hQp _ _ _ _ _ h
  case hy134 => exact Or.inr ⟨by rfl, rfl⟩
  try simp only [Act.put, List.setIfInBounds_toArray, List.set_cons_zero, List.set_cons_succ]
  refine wpAnyH_take (i := 38) (oi := ?oi135) (v := undef) ?hi135 (by kernel_rfl) (by kernel_rfl) (by kernel_rfl) ?hQ135 ?hy135 (by assumption) ?_
  case hi135 => (simp only [List.getElem?_toArray, List.getElem?_cons_succ, List.getElem?_cons_zero]; rfl)
  case hQ135 => exact fun _ _ _ h => hQp _ _ _ _ _ h
  case hy135 => exact Or.inr ⟨by rfl, rfl⟩
  try simp only [Act.put, List.setIfInBounds_toArray, List.set_cons_zero, List.set_cons_succ]
  refine wpAnyH_take (i := 39) (oi := ?oi136) (v := undef) ?hi136 (by kernel_rfl) (by kernel_rfl) (by kernel_rfl) ?hQ136 ?hy136 (by assumption) ?_
  case hi136 => (simp only [List.getElem?_toArray, List.getElem?_cons_succ, List.getElem?_cons_zero]; rfl)
  case hQ136 => exact fun _ _ _ h => hQp _ _ _ _ _ h
  case hy136 => exact Or.inr ⟨by rfl, rfl⟩
  try simp only [Act.put, List.setIfInBounds_toArray, List.set_cons_zero, List.set_cons_succ]
  refine wpAnyH_take (i := 40) (oi := ?oi137) (v := undef) ?hi137 (by kernel_rfl) (by kernel_rfl) (by kernel_rfl) ?hQ137 ?hy137 (by assumption) ?_
  case hi137 => (simp only [List.getElem?_toArray, List.getElem?_cons_succ, List.getElem?_cons_zero]; rfl)
  case hQ137 => exact fun _ _ _ h => hQp _ _ _ _ _ h
  case hy137 => exact Or.inr ⟨by rfl, rfl⟩
  try simp only [Act.put, List.setIfInBounds_toArray, List.set_cons_zero, List.set_cons_succ]
  refine wpAnyH_take (i := 41) (oi := ?oi138) (v := undef) ?hi138 (by kernel_rfl) (by kernel_rfl) (by kernel_rfl) ?hQ138 ?hy138 (by assumption) ?_
  case hi138 => (simp only [List.getElem?_toArray, List.getElem?_cons_succ, List.getElem?_cons_zero]; rfl)
  case hQ138 => exact fun _ _ _ h => hQp _ _ _ _ _ h
  case hy138 => exact Or.inr ⟨by rfl, rfl⟩
  try simp only [Act.put, List.setIfInBounds_toArray, List.set_cons_zero, List.set_cons_succ]
  refine wpAnyH_take (i := 42) (oi := ?oi139) (v := undef) ?hi139 (by kernel_rfl) (by kernel_rfl) (by kernel_rfl) ?hQ139 ?hy139 (by assumption) ?_
  case hi139 => (simp only [List.getElem?_toArray, List.getElem?_cons_succ, List.getElem?_cons_zero]; rfl)
  case hQ139 => exact fun _ _ _ h => hQp _ _ _ _ _ h
  case hy139 => exact Or.inr ⟨by rfl, rfl⟩
  try simp only [Act.put, List.setIfInBounds_toArray, List.set_cons_zero, List.set_cons_succ]
  refine wpAnyH_take (i := 43) (oi := ?oi140) (v := undef) ?hi140 (by kernel_rfl) (by kernel_rfl) (by kernel_rfl) ?hQ140 ?hy140 (by assumption) ?_
  case hi140 => (simp only [List.getElem?_toArray, List.getElem?_cons_succ, List.getElem?_cons_zero]; rfl)
  case hQ140 => exact fun _ _ _ h => hQp _ _ _ _ _ h
  case hy140 => exact Or.inr ⟨by rfl, rfl⟩
  try simp only [Act.put, List.setIfInBounds_toArray, List.set_cons_zero, List.set_cons_succ]
  refine wpAnyH_take (i := 44) (oi := ?oi141) (v := undef) ?hi141 (by kernel_rfl) (by kernel_rfl) (by kernel_rfl) ?hQ141 ?hy141 (by assumption) ?_
  case hi141 => (simp only [List.getElem?_toArray, List.getElem?_cons_succ, List.getElem?_cons_zero]; rfl)
  case hQ141 => exact fun _ _ _ h => hQp _ _ _ _ _ h
  case hy141 => exact Or.inr ⟨by rfl, rfl⟩
  try simp only [Act.put, List.setIfInBounds_toArray, List.set_cons_zero, List.set_cons_succ]
  refine wpAnyH_take (i := 45) (oi := ?oi142) (v := undef) ?hi142 (by kernel_rfl) (by kernel_rfl) (by kernel_rfl) ?hQ142 ?hy142 (by assumption) ?_
  case hi142 => (simp only [List.getElem?_toArray, List.getElem?_cons_succ, List.getElem?_cons_zero]; rfl)
  case hQ142 => exact fun _ _ _ h => hQp _ _ _ _ _ h
  case hy142 => exact Or.inr ⟨by rfl, rfl⟩
  try simp only [Act.put, List.setIfInBounds_toArray, List.set_cons_zero, List.set_cons_succ]
  refine wpAnyH_take (i := 46) (oi := ?oi143) (v := ?v143) ?hi143 (by kernel_rfl) (by kernel_rfl) (by kernel_rfl) ?hQ143 ?hy143 (by assumption) ?_
  case hi143 => (simp only [List.getElem?_toArray, List.getElem?_cons_succ, List.getElem?_cons_zero]; rfl)
  case hQ143 => exact fun _ _ _ h => hQp _ _ _ _ _ h
  case hy143 => (refine Or.inl ⟨by rfl, ?_⟩; intro w hSw; obtain ⟨d0, d1, e0, e1, e2, e3, m0, m1, m2, m3, m4, _⟩ := hSw; go_simp; try with_reducible rfl)
  try simp only [Act.put, List.setIfInBounds_toArray, List.set_cons_zero, List.set_cons_succ]
  refine wpAnyH_take (i := 47) (oi := ?oi144) (v := ?v144) ?hi144 (by kernel_rfl) (by kernel_rfl) (by kernel_rfl) ?hQ144 ?hy144 (by assumption) ?_
  case hi144 => (simp only [List.getElem?_toArray, List.getElem?_cons_succ, List.getElem?_cons_zero]; rfl)
  case hQ144 => exact fun _ _ _ h => hQp _ _ _ _ _ h
  case hy144 => (refine Or.inl ⟨by rfl, ?_⟩; intro w hSw; obtain ⟨d0, d1, e0, e1, e2, e3, m0, m1, m2, m3, m4, _⟩ := hSw; go_simp; try with_reducible rfl)
  try simp only [Act.put, List.setIfInBounds_toArray, List.set_cons_zero, List.set_cons_succ]
  refine wpAnyH_done (by kernel_rfl) ?_ _
  exact hQ _ _ _ _ _ _ _ _ _ _ _ _ _ _ _ _ _ _ _ _ _ _ _ _ _ _ _ _ _ _ _ _ _ _ _ _ _ _ _ _ _ _ _ _ _ _ _ _ (by assumption)
set_option maxRecDepth 1000000 in
set_option maxHeartbeats 8000000 in
theorem reg17_0t {u1 u2 u3 u5 u6 u7 u8 u9 u10 u11 u14 u16 u17 u18 u19 u20 u21 u22 u23 u24 u25 u26 u27 u28 u29 u30 u31 u32 u33 u34 u35 u36 u37 u38 u39 u40 u41 u42 u43 u44 u45 u46 u47 u48 u49 u50 u51 u52 u53 u54 u55 u56 u57 u58 u59 u60 u61 u62 u63 u64 u65 u66 u67 u68 u69 u70 u71 u72 u73 u74 u75 u76 u77 u78 u79 u80 u81 u82 u83 u84 u85 u86 u87 u88 u89 u90 u91 u92 u93 u94 u95 u96 u97 u98 u99 u100 u101 u102 u103 u104 u105 u106 u107 u108 u109 u110 u111 u112 u113 u114 u115 u116 u117 u118 u119 u120 u121 u122 u123 u124 u125 u126 u127 u128 u129 u130 u131 u132 u133 u134 u135 u136 u137 u138 u139 u140 u141 u142 u143 u144 u145 u146 u147 u148 u149 u150 u151 u152 u153 u154 u155 u156 u157 u158 u159 u160 u161 u162 u163 u164 u165 u166 u167 u168 u169 u170 u171 u172 u173 u174 u175 u176 u177 u178 u179 u180 u181 u182 u183 u184 u185 u186 u187 u188 u189 u190 u191 u192 u193 u194 u195 u196 u197 u198 u199 u200 u201 u202 u203 : Value} {Q : Exit → Act → World → Prop} {W8 : World} {ba off H S k cap : Nat} {l : List Cl} {c : Cl} {x : Nw} (known : Bool) (dl bud : Int) (i1 : (0 : Int) ≤ (k : Int)) (i2 : (k : Int) < (l.length : Int)) (hr : (c.tier == 0) = true)
    (h8 : RegR W8 ba (off + k * 4) H S c x ⟨c.to, 0, dl, bud, true⟩ W8) (hQp : ∀ c (d : Nat) v a w, Q (.panic c) (Act.put a (some d) v) w → Q (.panic c) a w) (hQ : ∀ (t93 t94 t95 t96 t97 t98 t99 t100 t101 t102 t103 t104 t105 t106 t107 t108 t109 t110 t111 t112 t113 t114 t115 t116 t117 t118 t119 t120 t121 t122 t123 t124 t125 t126 t127 t128 t129 t130 t131 t132 t133 t134 t135 t136 t137 t138 t139 : Value) (W9 : World), RegR W8 ba (off + k * 4) H S c x ⟨c.to, 0, dl, bud, true⟩ W9 → Q .normal ⟨#[.slice (some ⟨ba, off, none⟩) l.length cap, u1, u2, u3, .pointer (some ⟨H, 0, none⟩), u5, u6, u7, u8, u9, u10, u11, .int .i64 k, .pointer (some ⟨S, 0, none⟩), u14, .bool known, u16, u17, u18, u19, u20, u21, u22, u23, u24, u25, u26, u27, u28, u29, u30, u31, u32, u33, u34, u35, u36, u37, u38, u39, u40, u41, u42, u43, u44, u45, u46, u47, u48, u49, u50, u51, u52, u53, u54, u55, u56, u57, u58, u59, u60, u61, u62, u63, u64, u65, u66, u67, u68, u69, u70, u71, u72, u73, u74, u75, u76, u77, u78, u79, u80, u81, u82, u83, u84, u85, u86, u87, u88, u89, u90, u91, u92, t93, t94, t95, t96, t97, t98, t99, t100, t101, t102, t103, t104, t105, t106, t107, t108, t109, t110, t111, t112, t113, t114, t115, t116, t117, t118, t119, t120, t121, t122, t123, t124, t125, t126, t127, t128, t129, t130, t131, t132, t133, t134, t135, t136, t137, t138, t139, .bool false, u141, u142, u143, u144, u145, u146, u147, u148, u149, u150, u151, u152, u153, u154, u155, u156, u157, u158, u159, u160, u161, u162, u163, u164, u165, u166, u167, u168, u169, u170, u171, u172, u173, u174, u175, u176, u177, u178, u179, u180, u181, u182, u183, u184, u185, u186, u187, u188, u189, u190, u191, u192, u193, u194, u195, u196, u197, u198, u199, u200, u201, u202, u203], []⟩ W9) :
    Code.wp Try.prog reg17 Q ⟨#[.slice (some ⟨ba, off, none⟩) l.length cap, u1, u2, u3, .pointer (some ⟨H, 0, none⟩), u5, u6, u7, u8, u9, u10, u11, .int .i64 k, .pointer (some ⟨S, 0, none⟩), u14, .bool known, u16, u17, u18, u19, u20, u21, u22, u23, u24, u25, u26, u27, u28, u29, u30, u31, u32, u33, u34, u35, u36, u37, u38, u39, u40, u41, u42, u43, u44, u45, u46, u47, u48, u49, u50, u51, u52, u53, u54, u55, u56, u57, u58, u59, u60, u61, u62, u63, u64, u65, u66, u67, u68, u69, u70, u71, u72, u73, u74, u75, u76, u77, u78, u79, u80, u81, u82, u83, u84, u85, u86, u87, u88, u89, u90, u91, u92, u93, u94, u95, u96, u97, u98, u99, u100, u101, u102, u103, u104, u105, u106, u107, u108, u109, u110, u111, u112, u113, u114, u115, u116, u117, u118, u119, u120, u121, u122, u123, u124, u125, u126, u127, u128, u129, u130, u131, u132, u133, u134, u135, u136, u137, u138, u139, u140, u141, u142, u143, u144, u145, u146, u147, u148, u149, u150, u151, u152, u153, u154, u155, u156, u157, u158, u159, u160, u161, u162, u163, u164, u165, u166, u167, u168, u169, u170, u171, u172, u173, u174, u175, u176, u177, u178, u179, u180, u181, u182, u183, u184, u185, u186, u187, u188, u189, u190, u191, u192, u193, u194, u195, u196, u197, u198, u199, u200, u201, u202, u203], []⟩ W8 := by
  conv => arg 2; whnf
  refine wp_region_held_drew (S := fun W => RegR W8 ba (off + k * 4) H S c x ⟨c.to, 0, dl, bud, true⟩ W) (by kernel_rfl) ?_ (fun hHeld => ?_)
  · (try dsimp only); exact h8.keep (Below.refl _ _).drew
  refine wpAnyH_take (i := 0) (oi := ?oi145) (v := ?v145) ?hi145 (by kernel_rfl) (by kernel_rfl) (by kernel_rfl) ?hQ145 ?hy145 (by assumption) ?_
  case hi145 => (simp only [List.getElem?_toArray, List.getElem?_cons_succ, List.getElem?_cons_zero]; rfl)
  case hQ145 => exact fun _ _ _ h => hQp _ _ _ _ _ h
  case hy145 => (refine Or.inl ⟨by rfl, ?_⟩; intro w hSw; obtain ⟨d0, d1, e0, e1, e2, e3, m0, m1, m2, m3, m4, _⟩ := hSw; go_simp; try with_reducible rfl)
  try simp only [Act.put, List.setIfInBounds_toArray, List.set_cons_zero, List.set_cons_succ]
  refine wpAnyH_take (i := 1) (oi := ?oi146) (v := ?v146) ?hi146 (by kernel_rfl) (by kernel_rfl) (by kernel_rfl) ?hQ146 ?hy146 (by assumption) ?_
  case hi146 => (simp only [List.getElem?_toArray, List.getElem?_cons_succ, List.getElem?_cons_zero]; rfl)
  case hQ146 => exact fun _ _ _ h => hQp _ _ _ _ _ h
  case hy146 => (refine Or.inl ⟨by rfl, ?_⟩; intro w hSw; obtain ⟨d0, d1, e0, e1, e2, e3, m0, m1, m2, m3, m4, _⟩ := hSw; go_simp; try with_reducible rfl)
  try simp only [Act.put, List.setIfInBounds_toArray, List.set_cons_zero, List.set_cons_succ]
  refine wpAnyH_take (i := 2) (oi := ?oi147) (v := ?v147) ?hi147 (by kernel_rfl) (by kernel_rfl) (by kernel_rfl) ?hQ147 ?hy147 (by assumption) ?_
  case hi147 => (simp only [List.getElem?_toArray, List.getElem?_cons_succ, List.getElem?_cons_zero]; rfl)
  case hQ147 => exact fun _ _ _ h => hQp _ _ _ _ _ h
  case hy147 => (refine Or.inl ⟨by rfl, ?_⟩; intro w hSw; obtain ⟨d0, d1, e0, e1, e2, e3, m0, m1, m2, m3, m4, _⟩ := hSw; go_simp; try with_reducible rfl)
  try simp only [Act.put, List.setIfInBounds_toArray, List.set_cons_zero, List.set_cons_succ]
  refine wpAnyH_take (i := 3) (oi := ?oi148) (v := ?v148) ?hi148 (by kernel_rfl) (by kernel_rfl) (by kernel_rfl) ?hQ148 ?hy148 (by assumption) ?_
  case hi148 => (simp only [List.getElem?_toArray, List.getElem?_cons_succ, List.getElem?_cons_zero]; rfl)
  case hQ148 => exact fun _ _ _ h => hQp _ _ _ _ _ h
  case hy148 => (refine Or.inl ⟨by rfl, ?_⟩; intro w hSw; obtain ⟨d0, d1, e0, e1, e2, e3, m0, m1, m2, m3, m4, _⟩ := hSw; go_simp; try with_reducible rfl)
  try simp only [Act.put, List.setIfInBounds_toArray, List.set_cons_zero, List.set_cons_succ]
  refine wpAnyH_take (i := 4) (oi := ?oi149) (v := ?v149) ?hi149 (by kernel_rfl) (by kernel_rfl) (by kernel_rfl) ?hQ149 ?hy149 (by assumption) ?_
  case hi149 => (simp only [List.getElem?_toArray, List.getElem?_cons_succ, List.getElem?_cons_zero]; rfl)
  case hQ149 => exact fun _ _ _ h => hQp _ _ _ _ _ h
  case hy149 => (refine Or.inl ⟨by rfl, ?_⟩; intro w hSw; obtain ⟨d0, d1, e0, e1, e2, e3, m0, m1, m2, m3, m4, _⟩ := hSw; go_simp; try with_reducible rfl)
  try simp only [Act.put, List.setIfInBounds_toArray, List.set_cons_zero, List.set_cons_succ]
  refine wpAnyH_take (i := 5) (oi := ?oi150) (v := ?v150) ?hi150 (by kernel_rfl) (by kernel_rfl) (by kernel_rfl) ?hQ150 ?hy150 (by assumption) ?_
  case hi150 => (simp only [List.getElem?_toArray, List.getElem?_cons_succ, List.getElem?_cons_zero]; rfl)
  case hQ150 => exact fun _ _ _ h => hQp _ _ _ _ _ h
  case hy150 => (refine Or.inl ⟨by rfl, ?_⟩; intro w hSw; obtain ⟨d0, d1, e0, e1, e2, e3, m0, m1, m2, m3, m4, _⟩ := hSw; go_simp; try with_reducible rfl)
  try simp only [Act.put, List.setIfInBounds_toArray, List.set_cons_zero, List.set_cons_succ]
  refine wpAnyH_take (i := 6) (oi := ?oi151) (v := ?v151) ?hi151 (by kernel_rfl) (by kernel_rfl) (by kernel_rfl) ?hQ151 ?hy151 (by assumption) ?_
  case hi151 => (simp only [List.getElem?_toArray, List.getElem?_cons_succ, List.getElem?_cons_zero]; rfl)
  case hQ151 => exact fun _ _ _ h => hQp _ _ _ _ _ h
  case hy151 => (refine Or.inl ⟨by rfl, ?_⟩; intro w hSw; obtain ⟨d0, d1, e0, e1, e2, e3, m0, m1, m2, m3, m4, _⟩ := hSw; go_simp; try with_reducible rfl)
  try simp only [Act.put, List.setIfInBounds_toArray, List.set_cons_zero, List.set_cons_succ]
  refine wpAnyH_take (i := 7) (oi := ?oi152) (v := ?v152) ?hi152 (by kernel_rfl) (by kernel_rfl) (by kernel_rfl) ?hQ152 ?hy152 (by assumption) ?_
  case hi152 => (simp only [List.getElem?_toArray, List.getElem?_cons_succ, List.getElem?_cons_zero]; rfl)
  case hQ152 => exact fun _ _ _ h => hQp _ _ _ _ _ h
  case hy152 => (refine Or.inl ⟨by rfl, ?_⟩; intro w hSw; obtain ⟨d0, d1, e0, e1, e2, e3, m0, m1, m2, m3, m4, _⟩ := hSw; go_simp; try with_reducible rfl)
  try simp only [Act.put, List.setIfInBounds_toArray, List.set_cons_zero, List.set_cons_succ]
  refine wpAnyH_take (i := 8) (oi := ?oi153) (v := ?v153) ?hi153 (by kernel_rfl) (by kernel_rfl) (by kernel_rfl) ?hQ153 ?hy153 (by assumption) ?_
  case hi153 => (simp only [List.getElem?_toArray, List.getElem?_cons_succ, List.getElem?_cons_zero]; rfl)
  case hQ153 => exact fun _ _ _ h => hQp _ _ _ _ _ h
  case hy153 => (refine Or.inl ⟨by rfl, ?_⟩; intro w hSw; obtain ⟨d0, d1, e0, e1, e2, e3, m0, m1, m2, m3, m4, _⟩ := hSw; go_simp; try with_reducible rfl)
  try simp only [Act.put, List.setIfInBounds_toArray, List.set_cons_zero, List.set_cons_succ]
  refine wpAnyH_take (i := 9) (oi := ?oi154) (v := ?v154) ?hi154 (by kernel_rfl) (by kernel_rfl) (by kernel_rfl) ?hQ154 ?hy154 (by assumption) ?_
  case hi154 => (simp only [List.getElem?_toArray, List.getElem?_cons_succ, List.getElem?_cons_zero]; rfl)
  case hQ154 => exact fun _ _ _ h => hQp _ _ _ _ _ h
  case hy154 => (refine Or.inl ⟨by rfl, ?_⟩; intro w hSw; obtain ⟨d0, d1, e0, e1, e2, e3, m0, m1, m2, m3, m4, _⟩ := hSw; go_simp; try with_reducible rfl)
  try simp only [Act.put, List.setIfInBounds_toArray, List.set_cons_zero, List.set_cons_succ]
  refine wpAnyH_take (i := 10) (oi := ?oi155) (v := ?v155) ?hi155 (by kernel_rfl) (by kernel_rfl) (by kernel_rfl) ?hQ155 ?hy155 (by assumption) ?_
  case hi155 => (simp only [List.getElem?_toArray, List.getElem?_cons_succ, List.getElem?_cons_zero]; rfl)
  case hQ155 => exact fun _ _ _ h => hQp _ _ _ _ _ h
  case hy155 => (refine Or.inl ⟨by rfl, ?_⟩; intro w hSw; obtain ⟨d0, d1, e0, e1, e2, e3, m0, m1, m2, m3, m4, _⟩ := hSw; go_simp; try with_reducible rfl)
  try simp only [Act.put, List.setIfInBounds_toArray, List.set_cons_zero, List.set_cons_succ]
  refine wpAnyH_take (i := 11) (oi := ?oi156) (v := ?v156) ?hi156 (by kernel_rfl) (by kernel_rfl) (by kernel_rfl) ?hQ156 ?hy156 (by assumption) ?_
  case hi156 => (simp only [List.getElem?_toArray, List.getElem?_cons_succ, List.getElem?_cons_zero]; rfl)
  case hQ156 => exact fun _ _ _ h => hQp _ _ _ _ _ h
  case hy156 => (refine Or.inl ⟨by rfl, ?_⟩; intro w hSw; obtain ⟨d0, d1, e0, e1, e2, e3, m0, m1, m2, m3, m4, _⟩ := hSw; go_simp; try with_reducible rfl)
  try simp only [Act.put, List.setIfInBounds_toArray, List.set_cons_zero, List.set_cons_succ]
  refine wpAnyH_take (i := 12) (oi := ?oi157) (v := ?v157) ?hi157 (by kernel_rfl) (by kernel_rfl) (by kernel_rfl) ?hQ157 ?hy157 (by assumption) ?_
  case hi157 => (simp only [List.getElem?_toArray, List.getElem?_cons_succ, List.getElem?_cons_zero]; rfl)
  case hQ157 => exact fun _ _ _ h => hQp _ _ _ _ _ h
  case hy157 => (refine Or.inl ⟨by rfl, ?_⟩; intro w hSw; obtain ⟨d0, d1, e0, e1, e2, e3, m0, m1, m2, m3, m4, _⟩ := hSw; go_simp; try with_reducible rfl)
  try simp only [Act.put, List.setIfInBounds_toArray, List.set_cons_zero, List.set_cons_succ]
  refine wpAnyH_take (i := 13) (oi := ?oi158) (v := ?v158) ?hi158 (by kernel_rfl) (by kernel_rfl) (by kernel_rfl) ?hQ158 ?hy158 (by assumption) ?_
  case hi158 => (simp only [List.getElem?_toArray, List.getElem?_cons_succ, List.getElem?_cons_zero]; rfl)
  case hQ158 => exact fun _ _ _ h => hQp _ _ _ _ _ h
  case hy158 => (refine Or.inl ⟨by rfl, ?_⟩; intro w hSw; obtain ⟨d0, d1, e0, e1, e2, e3, m0, m1, m2, m3, m4, _⟩ := hSw; go_simp; try with_reducible rfl)
  try simp only [Act.put, List.setIfInBounds_toArray, List.set_cons_zero, List.set_cons_succ]
  refine wpAnyH_take (i := 14) (oi := ?oi159) (v := ?v159) ?hi159 (by kernel_rfl) (by kernel_rfl) (by kernel_rfl) ?hQ159 ?hy159 (by assumption) ?_
  case hi159 => (simp only [List.getElem?_toArray, List.getElem?_cons_succ, List.getElem?_cons_zero]; rfl)
  case hQ159 => exact fun _ _ _ h => hQp _ _ _ _ _ h
  case hy159 => (refine Or.inl ⟨by rfl, ?_⟩; intro w hSw; obtain ⟨d0, d1, e0, e1, e2, e3, m0, m1, m2, m3, m4, _⟩ := hSw; go_simp; try with_reducible rfl)
  try simp only [Act.put, List.setIfInBounds_toArray, List.set_cons_zero, List.set_cons_succ]
  refine wpAnyH_take (i := 15) (oi := ?oi160) (v := ?v160) ?hi160 (by kernel_rfl) (by kernel_rfl) (by kernel_rfl) ?hQ160 ?hy160 (by assumption) ?_
  case hi160 => (simp only [List.getElem?_toArray, List.getElem?_cons_succ, List.getElem?_cons_zero]; rfl)
  case hQ160 => exact fun _ _ _ h => hQp _ _ _ _ _ h
  case hy160 => (refine Or.inl ⟨by rfl, ?_⟩; intro w hSw; obtain ⟨d0, d1, e0, e1, e2, e3, m0, m1, m2, m3, m4, _⟩ := hSw; go_simp; try with_reducible rfl)
  try simp only [Act.put, List.setIfInBounds_toArray, List.set_cons_zero, List.set_cons_succ]
  refine wpAnyH_take (i := 16) (oi := ?oi161) (v := ?v161) ?hi161 (by kernel_rfl) (by kernel_rfl) (by kernel_rfl) ?hQ161 ?hy161 (by assumption) ?_
  case hi161 => (simp only [List.getElem?_toArray, List.getElem?_cons_succ, List.getElem?_cons_zero]; rfl)
  case hQ161 => exact fun _ _ _ h => hQp _ _ _ _ _ h
  case hy161 => (refine Or.inl ⟨by rfl, ?_⟩; intro w hSw; obtain ⟨d0, d1, e0, e1, e2, e3, m0, m1, m2, m3, m4, _⟩ := hSw; go_simp; try with_reducible rfl)
  try simp only [Act.put, List.setIfInBounds_toArray, List.set_cons_zero, List.set_cons_succ]
  refine wpAnyH_take (i := 17) (oi := ?oi162) (v := ?v162) ?hi162 (by kernel_rfl) (by kernel_rfl) (by kernel_rfl) ?hQ162 ?hy162 (by assumption) ?_
  case hi162 => (simp only [List.getElem?_toArray, List.getElem?_cons_succ, List.getElem?_cons_zero]; rfl)
  case hQ162 => exact fun _ _ _ h => hQp _ _ _ _ _ h
  case hy162 => (refine Or.inl ⟨by rfl, ?_⟩; intro w hSw; obtain ⟨d0, d1, e0, e1, e2, e3, m0, m1, m2, m3, m4, _⟩ := hSw; go_simp; try with_reducible rfl)
  try simp only [Act.put, List.setIfInBounds_toArray, List.set_cons_zero, List.set_cons_succ]
  refine wpAnyH_take (i := 18) (oi := ?oi163) (v := ?v163) ?hi163 (by kernel_rfl) (by kernel_rfl) (by kernel_rfl) ?hQ163 ?hy163 (by assumption) ?_
  case hi163 => (simp only [List.getElem?_toArray, List.getElem?_cons_succ, List.getElem?_cons_zero]; rfl)
  case hQ163 => exact fun _ _ _ h => hQp _ _ _ _ _ h
  case hy163 => (refine Or.inl ⟨by rfl, ?_⟩; intro w hSw; obtain ⟨d0, d1, e0, e1, e2, e3, m0, m1, m2, m3, m4, _⟩ := hSw; go_simp; try with_reducible rfl)
  try simp only [Act.put, List.setIfInBounds_toArray, List.set_cons_zero, List.set_cons_succ]
  refine wpAnyH_take (i := 19) (oi := ?oi164) (v := ?v164) ?hi164 (by kernel_rfl) (by kernel_rfl) (by kernel_rfl) ?hQ164 ?hy164 (by assumption) ?_
  case hi164 => (simp only [List.getElem?_toArray, List.getElem?_cons_succ, List.getElem?_cons_zero]; rfl)
  case hQ164 => exact fun _ _ _ h => hQp _ _ _ _ _ h
  case hy164 => (refine Or.inl ⟨by rfl, ?_⟩; intro w hSw; obtain ⟨d0, d1, e0, e1, e2, e3, m0, m1, m2, m3, m4, _⟩ := hSw; go_simp; try with_reducible rfl)
  try simp only [Act.put, List.setIfInBounds_toArray, List.set_cons_zero, List.set_cons_succ]
  refine wpAnyH_take (i := 20) (oi := ?oi165) (v := ?v165) ?hi165 (by kernel_rfl) (by kernel_rfl) (by kernel_rfl) ?hQ165 ?hy165 (by assumption) ?_
  case hi165 => (simp only [List.getElem?_toArray, List.getElem?_cons_succ, List.getElem?_cons_zero]; rfl)
  case hQ165 => exact fun _ _ _ h => hQp _ _ _ _ _ h
  case hy165 => (refine Or.inl ⟨by rfl, ?_⟩; intro w hSw; obtain ⟨d0, d1, e0, e1, e2, e3, m0, m1, m2, m3, m4, _⟩ := hSw; go_simp; try with_reducible rfl)
  try simp only [Act.put, List.setIfInBounds_toArray, List.set_cons_zero, List.set_cons_succ]
  refine wpAnyH_take (i := 21) (oi := ?oi166) (v := ?v166) ?hi166 (by kernel_rfl) (by kernel_rfl) (by kernel_rfl) ?hQ166 ?hy166 (by assumption) ?_
  case hi166 => (simp only [List.getElem?_toArray, List.getElem?_cons_succ, List.getElem?_cons_zero]; rfl)
  case hQ166 => exact fun _ _ _ h => hQp _ _ _ _ _ h
  case hy166 => (refine Or.inl ⟨by rfl, ?_⟩; intro w hSw; obtain ⟨d0, d1, e0, e1, e2, e3, m0, m1, m2, m3, m4, _⟩ := hSw; go_simp; try with_reducible rfl)
  try simp only [Act.put, List.setIfInBounds_toArray, List.set_cons_zero, List.set_cons_succ]
  refine wpAnyH_take (i := 22) (oi := ?oi167) (v := ?v167) ?hi167 (by kernel_rfl) (by kernel_rfl) (by kernel_rfl) ?hQ167 ?hy167 (by assumption) ?_
  case hi167 => (simp only [List.getElem?_toArray, List.getElem?_cons_succ, List.getElem?_cons_zero]; rfl)
  case hQ167 => exact fun _ _ _ h => hQp _ _ _ _ _ h
  case hy167 => (refine Or.inl ⟨by rfl, ?_⟩; intro w hSw; obtain ⟨d0, d1, e0, e1, e2, e3, m0, m1, m2, m3, m4, _⟩ := hSw; go_simp; try with_reducible rfl)
  try simp only [Act.put, List.setIfInBounds_toArray, List.set_cons_zero, List.set_cons_succ]
  refine wpAnyH_take (i := 23) (oi := ?oi168) (v := ?v168) ?hi168 (by kernel_rfl) (by kernel_rfl) (by kernel_rfl) ?hQ168 ?hy168 (by assumption) ?_
  case hi168 => (simp only [List.getElem?_toArray, List.getElem?_cons_succ, List.getElem?_cons_zero]; rfl)
  case hQ168 => exact fun _ _ _ h => hQp _ _ _ _ _ h
  case hy168 => (refine Or.inl ⟨by rfl, ?_⟩; intro w hSw; obtain ⟨d0, d1, e0, e1, e2, e3, m0, m1, m2, m3, m4, _⟩ := hSw; go_simp; try with_reducible rfl)
  try simp only [Act.put, List.setIfInBounds_toArray, List.set_cons_zero, List.set_cons_succ]
  refine wpAnyH_take (i := 24) (oi := ?oi169) (v := ?v169) ?hi169 (by kernel_rfl) (by kernel_rfl) (by kernel_rfl) ?hQ169 ?hy169 (by assumption) ?_
  case hi169 => (simp only [List.getElem?_toArray, List.getElem?_cons_succ, List.getElem?_cons_zero]; rfl)
  case hQ169 => exact fun _ _ _ h => hQp _ _ _ _ _ h
  case hy169 => (refine Or.inl ⟨by rfl, ?_⟩; intro w hSw; obtain ⟨d0, d1, e0, e1, e2, e3, m0, m1, m2, m3, m4, _⟩ := hSw; go_simp; try with_reducible rfl)
  try simp only [Act.put, List.setIfInBounds_toArray, List.set_cons_zero, List.set_cons_succ]
  refine wpAnyH_take (i := 25) (oi := ?oi170) (v := ?v170) ?hi170 (by kernel_rfl) (by kernel_rfl) (by kernel_rfl) ?hQ170 ?hy170 (by assumption) ?_
  case hi170 => (simp only [List.getElem?_toArray, List.getElem?_cons_succ, List.getElem?_cons_zero]; rfl)
  case hQ170 => exact fun _ _ _ h => hQp _ _ _ _ _ h
  case hy170 => (refine Or.inl ⟨by rfl, ?_⟩; intro w hSw; obtain ⟨d0, d1, e0, e1, e2, e3, m0, m1, m2, m3, m4, _⟩ := hSw; go_simp; try with_reducible rfl)
  try simp only [Act.put, List.setIfInBounds_toArray, List.set_cons_zero, List.set_cons_succ]
  refine wpAnyH_take (i := 26) (oi := ?oi171) (v := ?v171) ?hi171 (by kernel_rfl) (by kernel_rfl) (by kernel_rfl) ?hQ171 ?hy171 (by assumption) ?_
  case hi171 => (simp only [List.getElem?_toArray, List.getElem?_cons_succ, List.getElem?_cons_zero]; rfl)
  case hQ171 => exact fun _ _ _ h => hQp _ _ _ _ _ h
  case hy171 => (refine Or.inl ⟨by rfl, ?_⟩; intro w hSw; obtain ⟨d0, d1, e0, e1, e2, e3, m0, m1, m2, m3, m4, _⟩ := hSw; go_simp; try with_reducible rfl)
  try simp only [Act.put, List.setIfInBounds_toArray, List.set_cons_zero, List.set_cons_succ]
  refine wpAnyH_take (i := 27) (oi := ?oi172) (v := ?v172) ?hi172 (by kernel_rfl) (by kernel_rfl) (by kernel_rfl) ?hQ172 ?hy172 (by assumption) ?_
  case hi172 => (simp only [List.getElem?_toArray, List.getElem?_cons_succ, List.getElem?_cons_zero]; rfl)
  case hQ172 => exact fun _ _ _ h => hQp _ _ _ _ _ h
  case hy172 => (refine Or.inl ⟨by rfl, ?_⟩; intro w hSw; obtain ⟨d0, d1, e0, e1, e2, e3, m0, m1, m2, m3, m4, _⟩ := hSw; go_simp; try with_reducible rfl)
  try simp only [Act.put, List.setIfInBounds_toArray, List.set_cons_zero, List.set_cons_succ]
  refine wpAnyH_take (i := 28) (oi := ?oi173) (v := ?v173) ?hi173 (by kernel_rfl) (by kernel_rfl) (by kernel_rfl) ?hQ173 ?hy173 (by assumption) ?_
  case hi173 => (simp only [List.getElem?_toArray, List.getElem?_cons_succ, List.getElem?_cons_zero]; rfl)
  case hQ173 => exact fun _ _ _ h => hQp _ _ _ _ _ h
  case hy173 => (refine Or.inl ⟨by rfl, ?_⟩; intro w hSw; obtain ⟨d0, d1, e0, e1, e2, e3, m0, m1, m2, m3, m4, _⟩ := hSw; go_simp; try with_reducible rfl)
  try simp only [Act.put, List.setIfInBounds_toArray, List.set_cons_zero, List.set_cons_succ]
  refine wpAnyH_take (i := 29) (oi := ?oi174) (v := ?v174) ?hi174 (by kernel_rfl) (by kernel_rfl) (by kernel_rfl) ?hQ174 ?hy174 (by assumption) ?_
  case hi174 => (simp only [List.getElem?_toArray, List.getElem?_cons_succ, List.getElem?_cons_zero]; rfl)
  case hQ174 => exact fun _ _ _ h => hQp _ _ _ _ _ h
  case hy174 => (refine Or.inl ⟨by rfl, ?_⟩; intro w hSw; obtain ⟨d0, d1, e0, e1, e2, e3, m0, m1, m2, m3, m4, _⟩ := hSw; go_simp; try with_reducible rfl)
  try simp only [Act.put, List.setIfInBounds_toArray, List.set_cons_zero, List.set_cons_succ]
  refine wpAnyH_take (i := 30) (oi := ?oi175) (v := ?v175) ?hi175 (by kernel_rfl) (by kernel_rfl) (by kernel_rfl) ?hQ175 ?hy175 (by assumption) ?_
  case hi175 => (simp only [List.getElem?_toArray, List.getElem?_cons_succ, List.getElem?_cons_zero]; rfl)
  case hQ175 => exact fun _ _ _ h => hQp _ _ _ _ _ h
  case hy175 => (refine Or.inl ⟨by rfl, ?_⟩; intro w hSw; obtain ⟨d0, d1, e0, e1, e2, e3, m0, m1, m2, m3, m4, _⟩ := hSw; go_simp; try with_reducible rfl)
  try simp only [Act.put, List.setIfInBounds_toArray, List.set_cons_zero, List.set_cons_succ]
  refine wpAnyH_take (i := 31) (oi := ?oi176) (v := ?v176) ?hi176 (by kernel_rfl) (by kernel_rfl) (by kernel_rfl) ?hQ176 ?hy176 (by assumption) ?_
  case hi176 => (simp only [List.getElem?_toArray, List.getElem?_cons_succ, List.getElem?_cons_zero]; rfl)
  case hQ176 => exact fun _ _ _ h => hQp _ _ _ _ _ h
  case hy176 => (refine Or.inl ⟨by rfl, ?_⟩; intro w hSw; obtain ⟨d0, d1, e0, e1, e2, e3, m0, m1, m2, m3, m4, _⟩ := hSw; go_simp; try with_reducible rfl)
  try simp only [Act.put, List.setIfInBounds_toArray, List.set_cons_zero, List.set_cons_succ]
  refine wpAnyH_take (i := 32) (oi := ?oi177) (v := ?v177) ?hi177 (by kernel_rfl) (by kernel_rfl) (by kernel_rfl) ?hQ177 ?hy177 (by assumption) ?_
  case hi177 => (simp only [List.getElem?_toArray, List.getElem?_cons_succ, List.getElem?_cons_zero]; rfl)
  case hQ177 => exact fun _ _ _ h => hQp _ _ _ _ _ h
  case hy177 => (refine Or.inl ⟨by rfl, ?_⟩; intro w hSw; obtain ⟨d0, d1, e0, e1, e2, e3, m0, m1, m2, m3, m4, _⟩ := hSw; go_simp; try with_reducible rfl)
  try simp only [Act.put, List.setIfInBounds_toArray, List.set_cons_zero, List.set_cons_succ]
  refine wpAnyH_take (i := 33) (oi := ?oi178) (v := undef) ?hi178 (by kernel_rfl) (by kernel_rfl) (by kernel_rfl) ?hQ178 ?hy178 (by assumption) ?_
  case hi178 => (simp only [List.getElem?_toArray, List.getElem?_cons_succ, List.getElem?_cons_zero]; rfl)
  case hQ178 => exact fun _ _ _ h => hQp _ _ _ _ _ h
  case hy178 => exact Or.inr ⟨by rfl, rfl⟩
  try simp only [Act.put, List.setIfInBounds_toArray, List.set_cons_zero, List.set_cons_succ]
  refine wpAnyH_take (i := 34) (oi := ?oi179) (v := undef) ?hi179 (by kernel_rfl) (by kernel_rfl) (by kernel_rfl) ?hQ179 ?hy179 (by assumption) ?_
  case hi179 => (simp only [List.getElem?_toArray, List.getElem?_cons_succ, List.getElem?_cons_zero]; rfl)
  case hQ179 => exact fun _ _ _ h => hQp _ _ _ _ _ h
  case hy179 => exact Or.inr ⟨by rfl, rfl⟩
  try simp only [Act.put, List.setIfInBounds_toArray, List.set_cons_zero, List.set_cons_succ]
  refine wpAnyH_take (i := 35) (oi := ?oi180) (v := undef) ?hi180 (by kernel_rfl) (by kernel_rfl) (by kernel_rfl) ?hQ180 ?hy180 (by assumption) ?_
  case hi180 => (simp only [List.getElem?_toArray, List.getElem?_cons_succ, List.getElem?_cons_zero]; rfl)
  case hQ180 => exact fun _ _ _ h => hQp _ _ _ _ _ h
  case hy180 => exact Or.inr ⟨by rfl, rfl⟩
  try simp only [Act.put, List.setIfInBounds_toArray, List.set_cons_zero, List.set_cons_succ]
  refine wpAnyH_take (i := 36) (oi := ?oi181) (v := undef) ?hi181 (by kernel_rfl) (by kernel_rfl) (by kernel_rfl) ?hQ181 ?hy181 (by assumption) ?_
  case hi181 => (simp only [List.getElem?_toArray, List.getElem?_cons_succ, List.getElem?_cons_zero]; rfl)
  case hQ181 => exact fun _ _ _ h => hQp _ _ _ _ _ h
  case hy181 => exact Or.inr ⟨by rfl, rfl⟩
  try simp only [Act.put, List.setIfInBounds_toArray, List.set_cons_zero, List.set_cons_succ]
  refine wpAnyH_take (i := 37) (oi := ?oi182) (v := undef) ?hi182 (by kernel_rfl) (by kernel_rfl) (by kernel_rfl) ?hQ182 ?hy182 (by assumption) ?_
  case hi182 => (simp only [List.getElem?_toArray, List.getElem?_cons_succ, List.getElem?_cons_zero]; rfl)
  case hQ182 => exact fun _ _ _ h => hQp _ _ _ _ _ h
  case hy182 => exact Or.inr ⟨by rfl, rfl⟩
  try simp only [Act.put, List.setIfInBounds_toArray, List.set_cons_zero, List.set_cons_succ]
  refine wpAnyH_take (i := 38) (oi := ?oi183) (v := undef) ?hi183 (by kernel_rfl) (by kernel_rfl) (by kernel_rfl) ?hQ183 ?hy183 (by assumption) ?_
  case hi183 => (simp only [List.getElem?_toArray, List.getElem?_cons_succ, List.getElem?_cons_zero]; rfl)
  case hQ183 => exact fun _ _ _ h => hQp _ _ _ _ _ h
  case hy183 => exact Or.inr ⟨by rfl, rfl⟩
  try simp only [Act.put, List.setIfInBounds_toArray, List.set_cons_zero, List.set_cons_succ]
  refine wpAnyH_take (i := 39) (oi := ?oi184) (v := undef) ?hi184 (by kernel_rfl) (by kernel_rfl) (by kernel_rfl) ?hQ184 ?hy184 (by assumption) ?_
  case hi184 => (simp only [List.getElem?_toArray, List.getElem?_cons_succ, List.getElem?_cons_zero]; rfl)
  case hQ184 => exact fun _ _ _ h => hQp _ _ _ _ _ h
  case hy184 => exact Or.inr ⟨by rfl, rfl⟩
  try simp only [Act.put, List.setIfInBounds_toArray, List.set_cons_zero, List.set_cons_succ]
  refine wpAnyH_take (i := 40) (oi := ?oi185) (v := undef) ?hi185 (by kernel_rfl) (by kernel_rfl) (by kernel_rfl) ?hQ185 ?hy185 (by assumption) ?_
  case hi185 => (simp only [List.getElem?_toArray, List.getElem?_cons_succ, List.getElem?_cons_zero]; rfl)
  case hQ185 => exact fun _ _ _ h => hQp _ _ _ _ _ h
  case hy185 => exact Or.inr ⟨by rfl, rfl⟩
  try simp only [Act.put, List.setIfInBounds_toArray, List.set_cons_zero, List.set_cons_succ]
  refine wpAnyH_take (i := 41) (oi := ?oi186) (v := undef) ?hi186 (by kernel_rfl) (by kernel_rfl) (by kernel_rfl) ?hQ186 ?hy186 (by assumption) ?_
  case hi186 => (simp only [List.getElem?_toArray, List.getElem?_cons_succ, List.getElem?_cons_zero]; rfl)
  case hQ186 => exact fun _ _ _ h => hQp _ _ _ _ _ h
  case hy186 => exact Or.inr ⟨by rfl, rfl⟩
  try simp only [Act.put, List.setIfInBounds_toArray, List.set_cons_zero, List.set_cons_succ]
  refine wpAnyH_take (i := 42) (oi := ?oi187) (v := undef) ?hi187 (by kernel_rfl) (by kernel_rfl) (by kernel_rfl) ?hQ187 ?hy187 (by assumption) ?_
  case hi187 => (simp only [List.getElem?_toArray, List.getElem?_cons_succ, List.getElem?_cons_zero]; rfl)
  case hQ187 => exact fun _ _ _ h => hQp _ _ _ _ _ h
  case hy187 => exact Or.inr ⟨by rfl, rfl⟩
  try simp only [Act.put, List.setIfInBounds_toArray, List.set_cons_zero, List.set_cons_succ]
  refine wpAnyH_take (i := 43) (oi := ?oi188) (v := undef) ?hi188 (by kernel_rfl) (by kernel_rfl) (by kernel_rfl) ?hQ188 ?hy188 (by assumption) ?_
  case hi188 => (simp only [List.getElem?_toArray, List.getElem?_cons_succ, List.getElem?_cons_zero]; rfl)
  case hQ188 => exact fun _ _ _ h => hQp _ _ _ _ _ h
  case hy188 => exact Or.inr ⟨by rfl, rfl⟩
  try simp only [Act.put, List.setIfInBounds_toArray, List.set_cons_zero, List.set_cons_succ]
  refine wpAnyH_take (i := 44) (oi := ?oi189) (v := undef) ?hi189 (by kernel_rfl) (by kernel_rfl) (by kernel_rfl) ?hQ189 ?hy189 (by assumption) ?_
  case hi189 => (simp only [List.getElem?_toArray, List.getElem?_cons_succ, List.getElem?_cons_zero]; rfl)
  case hQ189 => exact fun _ _ _ h => hQp _ _ _ _ _ h
  case hy189 => exact Or.inr ⟨by rfl, rfl⟩
  try simp only [Act.put, List.setIfInBounds_toArray, List.set_cons_zero, List.set_cons_succ]
  refine wpAnyH_take (i := 45) (oi := ?oi190) (v := undef) ?hi190 (by kernel_rfl) (by kernel_rfl) (by kernel_rfl) ?hQ190 ?hy190 (by assumption) ?_
  case hi190 => (simp only [List.getElem?_toArray, List.getElem?_cons_succ, List.getElem?_cons_zero]; rfl)
  case hQ190 => exact fun _ _ _ h => hQp _ _ _ _ _ h
  case hy190 => exact Or.inr ⟨by rfl, rfl⟩
  try simp only [Act.put, List.setIfInBounds_toArray, List.set_cons_zero, List.set_cons_succ]
  refine wpAnyH_take (i := 46) (oi := ?oi191) (v := ?v191) ?hi191 (by kernel_rfl) (by kernel_rfl) (by kernel_rfl) ?hQ191 ?hy191 (by assumption) ?_
  case hi191 => (simp only [List.getElem?_toArray, List.getElem?_cons_succ, List.getElem?_cons_zero]; rfl)
  case hQ191 => exact fun _ _ _ h => hQp _ _ _ _ _ h
  case hy191 => (refine Or.inl ⟨by rfl, ?_⟩; intro w hSw; obtain ⟨d0, d1, e0, e1, e2, e3, m0, m1, m2, m3, m4, _⟩ := hSw; go_simp; try with_reducible rfl)
  try simp only [Act.put, List.setIfInBounds_toArray, List.set_cons_zero, List.set_cons_succ]
  refine wpAnyH_take (i := 47) (oi := ?oi192) (v := ?v192) ?hi192 (by kernel_rfl) (by kernel_rfl) (by kernel_rfl) ?hQ192 ?hy192 (by assumption) ?_
  case hi192 => (simp only [List.getElem?_toArray, List.getElem?_cons_succ, List.getElem?_cons_zero]; rfl)
  case hQ192 => exact fun _ _ _ h => hQp _ _ _ _ _ h
  case hy192 => (refine Or.inl ⟨by rfl, ?_⟩; intro w hSw; obtain ⟨d0, d1, e0, e1, e2, e3, m0, m1, m2, m3, m4, _⟩ := hSw; go_simp; try with_reducible rfl)
  try simp only [Act.put, List.setIfInBounds_toArray, List.set_cons_zero, List.set_cons_succ]
  refine wpAnyH_done (by kernel_rfl) ?_ _
  exact hQ _ _ _ _ _ _ _ _ _ _ _ _ _ _ _ _ _ _ _ _ _ _ _ _ _ _ _ _ _ _ _ _ _ _ _ _ _ _ _ _ _ _ _ _ _ _ _ _ (by assumption)
end Go.Proofs.Ytgkmmoiniidhlaa
