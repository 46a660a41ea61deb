/-
  The statement FanRequired of layer 33 (fan), the one region that draws its order. Condition: the case.
-/
import Derived.Test.YtgkmmoiniidhlaaFan9
namespace Go.Proofs.Ytgkmmoiniidhlaa
open Go.RowKit
set_option linter.unusedVariables false
set_option linter.unusedSimpArgs false

set_option maxRecDepth 1000000 in
set_option maxHeartbeats 8000000 in
theorem reg17_8 {u1 u2 u3 u5 u6 u8 u9 u10 u11 u14 u16 u17 u18 u19 u20 u21 u22 u23 u24 u25 u26 u27 u28 u29 u30 u31 u32 u33 u34 u35 u36 u37 u38 u39 u40 u41 u42 u43 u44 u45 u46 u47 u48 u49 u50 u51 u52 u53 u54 u55 u56 u57 u58 u59 u60 u61 u62 u63 u64 u65 u66 u67 u68 u69 u70 u71 u72 u73 u74 u75 u76 u77 u78 u79 u80 u81 u82 u83 u84 u85 u86 u87 u88 u89 u90 u91 u92 u93 u94 u95 u96 u97 u98 u99 u100 u101 u102 u103 u104 u105 u106 u107 u108 u109 u110 u111 u112 u113 u114 u115 u116 u117 u118 u119 u120 u121 u122 u123 u124 u125 u126 u127 u128 u129 u130 u131 u132 u133 u134 u135 u136 u137 u138 u139 u140 u141 u142 u143 u144 u145 u146 u147 u148 u149 u150 u151 u152 u153 u154 u155 u156 u157 u158 u159 u160 u161 u162 u163 u164 u165 u166 u167 u168 u169 u170 u171 u172 u173 u174 u175 u176 u177 u178 u179 u180 u181 u182 u183 u184 u185 u186 u187 u188 u189 u190 u191 u192 u193 u194 u195 u196 u197 u198 u199 u200 u201 u202 u203 : Value} {Q : Exit → Act → World → Prop} {W8 : World} {ba off H S k cap : Nat} {l : List Cl} {c : Cl} {x : Nw} (T : Nat) (f : Ents) (HT8 : Hid (TableAt W8 T 20 f)) (HCt : Hid (cuts f 20 c.to x.lev x.tick = true)) (i1 : (0 : Int) ≤ (k : Int)) (i2 : (k : Int) < (l.length : Int)) (hr : (c.tier == 0) = false)
    (h8 : RegR W8 ba (off + k * 4) H S c x ⟨c.to, 8, 0, 0, false⟩ W8) (hQp : ∀ c (d : Nat) v a w, Q (.panic c) (Act.put a (some d) v) w → Q (.panic c) a w) (hQ : ∀ (t93 t94 t95 t96 t97 t98 t99 t100 t101 t102 t103 t104 t105 t106 t107 t108 t109 t110 t111 t112 t113 t114 t115 t116 t117 t118 t119 t120 t121 t122 t123 t124 t125 t126 t127 t128 t129 t130 t131 t132 t133 t134 t135 t136 t137 t138 t139 : Value) (W9 : World), RegR W8 ba (off + k * 4) H S c x ⟨c.to, 8, 0, 0, false⟩ W9 → Q .normal ⟨#[.slice (some ⟨ba, off, none⟩) l.length cap, u1, u2, u3, .pointer (some ⟨H, 0, none⟩), u5, u6, .pointer (some ⟨T, 0, none⟩), u8, u9, u10, u11, .int .i64 k, .pointer (some ⟨S, 0, none⟩), u14, .bool true, u16, u17, u18, u19, u20, u21, u22, u23, u24, u25, u26, u27, u28, u29, u30, u31, u32, u33, u34, u35, u36, u37, u38, u39, u40, u41, u42, u43, u44, u45, u46, u47, u48, u49, u50, u51, u52, u53, u54, u55, u56, u57, u58, u59, u60, u61, u62, u63, u64, u65, u66, u67, u68, u69, u70, u71, u72, u73, u74, u75, u76, u77, u78, u79, u80, u81, u82, u83, u84, u85, u86, u87, u88, u89, u90, u91, u92, t93, t94, t95, t96, t97, t98, t99, t100, t101, t102, t103, t104, t105, t106, t107, t108, t109, t110, t111, t112, t113, t114, t115, t116, t117, t118, t119, t120, t121, t122, t123, t124, t125, t126, t127, t128, t129, t130, t131, t132, t133, t134, t135, t136, t137, t138, t139, .bool false, u141, u142, u143, u144, u145, u146, u147, u148, u149, u150, u151, u152, u153, u154, u155, u156, u157, u158, u159, u160, u161, u162, u163, u164, u165, u166, u167, u168, u169, u170, u171, u172, u173, u174, u175, u176, u177, u178, u179, u180, u181, u182, u183, u184, u185, u186, u187, u188, u189, u190, u191, u192, u193, u194, u195, u196, u197, u198, u199, u200, u201, u202, u203], []⟩ W9) :
    Code.wp Try.prog reg17 Q ⟨#[.slice (some ⟨ba, off, none⟩) l.length cap, u1, u2, u3, .pointer (some ⟨H, 0, none⟩), u5, u6, .pointer (some ⟨T, 0, none⟩), u8, u9, u10, u11, .int .i64 k, .pointer (some ⟨S, 0, none⟩), u14, .bool true, u16, u17, u18, u19, u20, u21, u22, u23, u24, u25, u26, u27, u28, u29, u30, u31, u32, u33, u34, u35, u36, u37, u38, u39, u40, u41, u42, u43, u44, u45, u46, u47, u48, u49, u50, u51, u52, u53, u54, u55, u56, u57, u58, u59, u60, u61, u62, u63, u64, u65, u66, u67, u68, u69, u70, u71, u72, u73, u74, u75, u76, u77, u78, u79, u80, u81, u82, u83, u84, u85, u86, u87, u88, u89, u90, u91, u92, u93, u94, u95, u96, u97, u98, u99, u100, u101, u102, u103, u104, u105, u106, u107, u108, u109, u110, u111, u112, u113, u114, u115, u116, u117, u118, u119, u120, u121, u122, u123, u124, u125, u126, u127, u128, u129, u130, u131, u132, u133, u134, u135, u136, u137, u138, u139, u140, u141, u142, u143, u144, u145, u146, u147, u148, u149, u150, u151, u152, u153, u154, u155, u156, u157, u158, u159, u160, u161, u162, u163, u164, u165, u166, u167, u168, u169, u170, u171, u172, u173, u174, u175, u176, u177, u178, u179, u180, u181, u182, u183, u184, u185, u186, u187, u188, u189, u190, u191, u192, u193, u194, u195, u196, u197, u198, u199, u200, u201, u202, u203], []⟩ W8 := by
  conv => arg 2; whnf
  refine wp_region_held_drew (S := fun W => RegR W8 ba (off + k * 4) H S c x ⟨c.to, 8, 0, 0, false⟩ W) (by kernel_rfl) ?_ (fun hHeld => ?_)
  · (try dsimp only); exact h8.keep (Below.refl _ _).drew
  refine wpAnyH_take (i := 0) (oi := ?oi193) (v := ?v193) ?hi193 (by kernel_rfl) (by kernel_rfl) (by kernel_rfl) ?hQ193 ?hy193 (by assumption) ?_
  case hi193 => (simp only [List.getElem?_toArray, List.getElem?_cons_succ, List.getElem?_cons_zero]; rfl)
  case hQ193 => exact fun _ _ _ h => hQp _ _ _ _ _ h
  case hy193 => (refine Or.inl ⟨by rfl, ?_⟩; intro w hSw; obtain ⟨d0, d1, e0, e1, e2, e3, m0, m1, m2, m3, m4, _⟩ := hSw; go_simp; try with_reducible rfl)
  try simp only [Act.put, List.setIfInBounds_toArray, List.set_cons_zero, List.set_cons_succ]
  refine wpAnyH_take (i := 1) (oi := ?oi194) (v := ?v194) ?hi194 (by kernel_rfl) (by kernel_rfl) (by kernel_rfl) ?hQ194 ?hy194 (by assumption) ?_
  case hi194 => (simp only [List.getElem?_toArray, List.getElem?_cons_succ, List.getElem?_cons_zero]; rfl)
  case hQ194 => exact fun _ _ _ h => hQp _ _ _ _ _ h
  case hy194 => (refine Or.inl ⟨by rfl, ?_⟩; intro w hSw; obtain ⟨d0, d1, e0, e1, e2, e3, m0, m1, m2, m3, m4, _⟩ := hSw; go_simp; try with_reducible rfl)
  try simp only [Act.put, List.setIfInBounds_toArray, List.set_cons_zero, List.set_cons_succ]
  refine wpAnyH_take (i := 2) (oi := ?oi195) (v := ?v195) ?hi195 (by kernel_rfl) (by kernel_rfl) (by kernel_rfl) ?hQ195 ?hy195 (by assumption) ?_
  case hi195 => (simp only [List.getElem?_toArray, List.getElem?_cons_succ, List.getElem?_cons_zero]; rfl)
  case hQ195 => exact fun _ _ _ h => hQp _ _ _ _ _ h
  case hy195 => (refine Or.inl ⟨by rfl, ?_⟩; intro w hSw; obtain ⟨d0, d1, e0, e1, e2, e3, m0, m1, m2, m3, m4, _⟩ := hSw; go_simp; try with_reducible rfl)
  try simp only [Act.put, List.setIfInBounds_toArray, List.set_cons_zero, List.set_cons_succ]
  refine wpAnyH_take (i := 3) (oi := ?oi196) (v := ?v196) ?hi196 (by kernel_rfl) (by kernel_rfl) (by kernel_rfl) ?hQ196 ?hy196 (by assumption) ?_
  case hi196 => (simp only [List.getElem?_toArray, List.getElem?_cons_succ, List.getElem?_cons_zero]; rfl)
  case hQ196 => exact fun _ _ _ h => hQp _ _ _ _ _ h
  case hy196 => (refine Or.inl ⟨by rfl, ?_⟩; intro w hSw; obtain ⟨d0, d1, e0, e1, e2, e3, m0, m1, m2, m3, m4, _⟩ := hSw; go_simp; try with_reducible rfl)
  try simp only [Act.put, List.setIfInBounds_toArray, List.set_cons_zero, List.set_cons_succ]
  refine wpAnyH_take (i := 4) (oi := ?oi197) (v := ?v197) ?hi197 (by kernel_rfl) (by kernel_rfl) (by kernel_rfl) ?hQ197 ?hy197 (by assumption) ?_
  case hi197 => (simp only [List.getElem?_toArray, List.getElem?_cons_succ, List.getElem?_cons_zero]; rfl)
  case hQ197 => exact fun _ _ _ h => hQp _ _ _ _ _ h
  case hy197 => (refine Or.inl ⟨by rfl, ?_⟩; intro w hSw; obtain ⟨d0, d1, e0, e1, e2, e3, m0, m1, m2, m3, m4, _⟩ := hSw; go_simp; try with_reducible rfl)
  try simp only [Act.put, List.setIfInBounds_toArray, List.set_cons_zero, List.set_cons_succ]
  refine wpAnyH_take (i := 5) (oi := ?oi198) (v := ?v198) ?hi198 (by kernel_rfl) (by kernel_rfl) (by kernel_rfl) ?hQ198 ?hy198 (by assumption) ?_
  case hi198 => (simp only [List.getElem?_toArray, List.getElem?_cons_succ, List.getElem?_cons_zero]; rfl)
  case hQ198 => exact fun _ _ _ h => hQp _ _ _ _ _ h
  case hy198 => (refine Or.inl ⟨by rfl, ?_⟩; intro w hSw; obtain ⟨d0, d1, e0, e1, e2, e3, m0, m1, m2, m3, m4, _⟩ := hSw; go_simp; try with_reducible rfl)
  try simp only [Act.put, List.setIfInBounds_toArray, List.set_cons_zero, List.set_cons_succ]
  refine wpAnyH_take (i := 6) (oi := ?oi199) (v := ?v199) ?hi199 (by kernel_rfl) (by kernel_rfl) (by kernel_rfl) ?hQ199 ?hy199 (by assumption) ?_
  case hi199 => (simp only [List.getElem?_toArray, List.getElem?_cons_succ, List.getElem?_cons_zero]; rfl)
  case hQ199 => exact fun _ _ _ h => hQp _ _ _ _ _ h
  case hy199 => (refine Or.inl ⟨by rfl, ?_⟩; intro w hSw; obtain ⟨d0, d1, e0, e1, e2, e3, m0, m1, m2, m3, m4, _⟩ := hSw; go_simp; try with_reducible rfl)
  try simp only [Act.put, List.setIfInBounds_toArray, List.set_cons_zero, List.set_cons_succ]
  refine wpAnyH_take (i := 7) (oi := ?oi200) (v := ?v200) ?hi200 (by kernel_rfl) (by kernel_rfl) (by kernel_rfl) ?hQ200 ?hy200 (by assumption) ?_
  case hi200 => (simp only [List.getElem?_toArray, List.getElem?_cons_succ, List.getElem?_cons_zero]; rfl)
  case hQ200 => exact fun _ _ _ h => hQp _ _ _ _ _ h
  case hy200 => (refine Or.inl ⟨by rfl, ?_⟩; intro w hSw; obtain ⟨d0, d1, e0, e1, e2, e3, m0, m1, m2, m3, m4, _⟩ := hSw; go_simp; try with_reducible rfl)
  try simp only [Act.put, List.setIfInBounds_toArray, List.set_cons_zero, List.set_cons_succ]
  refine wpAnyH_take (i := 8) (oi := ?oi201) (v := ?v201) ?hi201 (by kernel_rfl) (by kernel_rfl) (by kernel_rfl) ?hQ201 ?hy201 (by assumption) ?_
  case hi201 => (simp only [List.getElem?_toArray, List.getElem?_cons_succ, List.getElem?_cons_zero]; rfl)
  case hQ201 => exact fun _ _ _ h => hQp _ _ _ _ _ h
  case hy201 => (refine Or.inl ⟨by rfl, ?_⟩; intro w hSw; obtain ⟨d0, d1, e0, e1, e2, e3, m0, m1, m2, m3, m4, _⟩ := hSw; go_simp; try with_reducible rfl)
  try simp only [Act.put, List.setIfInBounds_toArray, List.set_cons_zero, List.set_cons_succ]
  refine wpAnyH_take (i := 9) (oi := ?oi202) (v := ?v202) ?hi202 (by kernel_rfl) (by kernel_rfl) (by kernel_rfl) ?hQ202 ?hy202 (by assumption) ?_
  case hi202 => (simp only [List.getElem?_toArray, List.getElem?_cons_succ, List.getElem?_cons_zero]; rfl)
  case hQ202 => exact fun _ _ _ h => hQp _ _ _ _ _ h
  case hy202 => (refine Or.inl ⟨by rfl, ?_⟩; intro w hSw; obtain ⟨d0, d1, e0, e1, e2, e3, m0, m1, m2, m3, m4, _⟩ := hSw; go_simp; try with_reducible rfl)
  try simp only [Act.put, List.setIfInBounds_toArray, List.set_cons_zero, List.set_cons_succ]
  refine wpAnyH_take (i := 10) (oi := ?oi203) (v := ?v203) ?hi203 (by kernel_rfl) (by kernel_rfl) (by kernel_rfl) ?hQ203 ?hy203 (by assumption) ?_
  case hi203 => (simp only [List.getElem?_toArray, List.getElem?_cons_succ, List.getElem?_cons_zero]; rfl)
  case hQ203 => exact fun _ _ _ h => hQp _ _ _ _ _ h
  case hy203 => (refine Or.inl ⟨by rfl, ?_⟩; intro w hSw; obtain ⟨d0, d1, e0, e1, e2, e3, m0, m1, m2, m3, m4, _⟩ := hSw; go_simp; try with_reducible rfl)
  try simp only [Act.put, List.setIfInBounds_toArray, List.set_cons_zero, List.set_cons_succ]
  refine wpAnyH_take (i := 11) (oi := ?oi204) (v := ?v204) ?hi204 (by kernel_rfl) (by kernel_rfl) (by kernel_rfl) ?hQ204 ?hy204 (by assumption) ?_
  case hi204 => (simp only [List.getElem?_toArray, List.getElem?_cons_succ, List.getElem?_cons_zero]; rfl)
  case hQ204 => exact fun _ _ _ h => hQp _ _ _ _ _ h
  case hy204 => (refine Or.inl ⟨by rfl, ?_⟩; intro w hSw; obtain ⟨d0, d1, e0, e1, e2, e3, m0, m1, m2, m3, m4, _⟩ := hSw; go_simp; try with_reducible rfl)
  try simp only [Act.put, List.setIfInBounds_toArray, List.set_cons_zero, List.set_cons_succ]
  refine wpAnyH_take (i := 12) (oi := ?oi205) (v := ?v205) ?hi205 (by kernel_rfl) (by kernel_rfl) (by kernel_rfl) ?hQ205 ?hy205 (by assumption) ?_
  case hi205 => (simp only [List.getElem?_toArray, List.getElem?_cons_succ, List.getElem?_cons_zero]; rfl)
  case hQ205 => exact fun _ _ _ h => hQp _ _ _ _ _ h
  case hy205 => (refine Or.inl ⟨by rfl, ?_⟩; intro w hSw; obtain ⟨d0, d1, e0, e1, e2, e3, m0, m1, m2, m3, m4, _⟩ := hSw; go_simp; try with_reducible rfl)
  try simp only [Act.put, List.setIfInBounds_toArray, List.set_cons_zero, List.set_cons_succ]
  refine wpAnyH_take (i := 13) (oi := ?oi206) (v := ?v206) ?hi206 (by kernel_rfl) (by kernel_rfl) (by kernel_rfl) ?hQ206 ?hy206 (by assumption) ?_
  case hi206 => (simp only [List.getElem?_toArray, List.getElem?_cons_succ, List.getElem?_cons_zero]; rfl)
  case hQ206 => exact fun _ _ _ h => hQp _ _ _ _ _ h
  case hy206 => (refine Or.inl ⟨by rfl, ?_⟩; intro w hSw; obtain ⟨d0, d1, e0, e1, e2, e3, m0, m1, m2, m3, m4, _⟩ := hSw; go_simp; try with_reducible rfl)
  try simp only [Act.put, List.setIfInBounds_toArray, List.set_cons_zero, List.set_cons_succ]
  refine wpAnyH_take (i := 14) (oi := ?oi207) (v := ?v207) ?hi207 (by kernel_rfl) (by kernel_rfl) (by kernel_rfl) ?hQ207 ?hy207 (by assumption) ?_
  case hi207 => (simp only [List.getElem?_toArray, List.getElem?_cons_succ, List.getElem?_cons_zero]; rfl)
  case hQ207 => exact fun _ _ _ h => hQp _ _ _ _ _ h
  case hy207 => (refine Or.inl ⟨by rfl, ?_⟩; intro w hSw; obtain ⟨d0, d1, e0, e1, e2, e3, m0, m1, m2, m3, m4, _⟩ := hSw; go_simp; try with_reducible rfl)
  try simp only [Act.put, List.setIfInBounds_toArray, List.set_cons_zero, List.set_cons_succ]
  refine wpAnyH_take (i := 15) (oi := ?oi208) (v := ?v208) ?hi208 (by kernel_rfl) (by kernel_rfl) (by kernel_rfl) ?hQ208 ?hy208 (by assumption) ?_
  case hi208 => (simp only [List.getElem?_toArray, List.getElem?_cons_succ, List.getElem?_cons_zero]; rfl)
  case hQ208 => exact fun _ _ _ h => hQp _ _ _ _ _ h
  case hy208 => (refine Or.inl ⟨by rfl, ?_⟩; intro w hSw; obtain ⟨d0, d1, e0, e1, e2, e3, m0, m1, m2, m3, m4, _⟩ := hSw; go_simp; try with_reducible rfl)
  try simp only [Act.put, List.setIfInBounds_toArray, List.set_cons_zero, List.set_cons_succ]
  refine wpAnyH_take (i := 16) (oi := ?oi209) (v := ?v209) ?hi209 (by kernel_rfl) (by kernel_rfl) (by kernel_rfl) ?hQ209 ?hy209 (by assumption) ?_
  case hi209 => (simp only [List.getElem?_toArray, List.getElem?_cons_succ, List.getElem?_cons_zero]; rfl)
  case hQ209 => exact fun _ _ _ h => hQp _ _ _ _ _ h
  case hy209 => (refine Or.inl ⟨by rfl, ?_⟩; intro w hSw; obtain ⟨d0, d1, e0, e1, e2, e3, m0, m1, m2, m3, m4, _⟩ := hSw; go_simp; try with_reducible rfl)
  try simp only [Act.put, List.setIfInBounds_toArray, List.set_cons_zero, List.set_cons_succ]
  refine wpAnyH_take (i := 17) (oi := ?oi210) (v := ?v210) ?hi210 (by kernel_rfl) (by kernel_rfl) (by kernel_rfl) ?hQ210 ?hy210 (by assumption) ?_
  case hi210 => (simp only [List.getElem?_toArray, List.getElem?_cons_succ, List.getElem?_cons_zero]; rfl)
  case hQ210 => exact fun _ _ _ h => hQp _ _ _ _ _ h
  case hy210 => (refine Or.inl ⟨by rfl, ?_⟩; intro w hSw; obtain ⟨d0, d1, e0, e1, e2, e3, m0, m1, m2, m3, m4, _⟩ := hSw; go_simp; try with_reducible rfl)
  try simp only [Act.put, List.setIfInBounds_toArray, List.set_cons_zero, List.set_cons_succ]
  refine wpAnyH_take (i := 18) (oi := ?oi211) (v := ?v211) ?hi211 (by kernel_rfl) (by kernel_rfl) (by kernel_rfl) ?hQ211 ?hy211 (by assumption) ?_
  case hi211 => (simp only [List.getElem?_toArray, List.getElem?_cons_succ, List.getElem?_cons_zero]; rfl)
  case hQ211 => exact fun _ _ _ h => hQp _ _ _ _ _ h
  case hy211 => (refine Or.inl ⟨by rfl, ?_⟩; intro w hSw; obtain ⟨d0, d1, e0, e1, e2, e3, m0, m1, m2, m3, m4, _⟩ := hSw; go_simp; try with_reducible rfl)
  try simp only [Act.put, List.setIfInBounds_toArray, List.set_cons_zero, List.set_cons_succ]
  refine wpAnyH_take (i := 19) (oi := ?oi212) (v := ?v212) ?hi212 (by kernel_rfl) (by kernel_rfl) (by kernel_rfl) ?hQ212 ?hy212 (by assumption) ?_
  case hi212 => (simp only [List.getElem?_toArray, List.getElem?_cons_succ, List.getElem?_cons_zero]; rfl)
  case hQ212 => exact fun _ _ _ h => hQp _ _ _ _ _ h
  case hy212 => (refine Or.inl ⟨by rfl, ?_⟩; intro w hSw; obtain ⟨d0, d1, e0, e1, e2, e3, m0, m1, m2, m3, m4, _⟩ := hSw; go_simp; try with_reducible rfl)
  try simp only [Act.put, List.setIfInBounds_toArray, List.set_cons_zero, List.set_cons_succ]
  refine wpAnyH_take (i := 20) (oi := ?oi213) (v := ?v213) ?hi213 (by kernel_rfl) (by kernel_rfl) (by kernel_rfl) ?hQ213 ?hy213 (by assumption) ?_
  case hi213 => (simp only [List.getElem?_toArray, List.getElem?_cons_succ, List.getElem?_cons_zero]; rfl)
  case hQ213 => exact fun _ _ _ h => hQp _ _ _ _ _ h
  case hy213 => (refine Or.inl ⟨by rfl, ?_⟩; intro w hSw; obtain ⟨d0, d1, e0, e1, e2, e3, m0, m1, m2, m3, m4, _⟩ := hSw; go_simp; try with_reducible rfl)
  try simp only [Act.put, List.setIfInBounds_toArray, List.set_cons_zero, List.set_cons_succ]
  refine wpAnyH_take (i := 21) (oi := ?oi214) (v := ?v214) ?hi214 (by kernel_rfl) (by kernel_rfl) (by kernel_rfl) ?hQ214 ?hy214 (by assumption) ?_
  case hi214 => (simp only [List.getElem?_toArray, List.getElem?_cons_succ, List.getElem?_cons_zero]; rfl)
  case hQ214 => exact fun _ _ _ h => hQp _ _ _ _ _ h
  case hy214 => (refine Or.inl ⟨by rfl, ?_⟩; intro w hSw; obtain ⟨d0, d1, e0, e1, e2, e3, m0, m1, m2, m3, m4, _⟩ := hSw; go_simp; try with_reducible rfl)
  try simp only [Act.put, List.setIfInBounds_toArray, List.set_cons_zero, List.set_cons_succ]
  refine wpAnyH_take (i := 22) (oi := ?oi215) (v := ?v215) ?hi215 (by kernel_rfl) (by kernel_rfl) (by kernel_rfl) ?hQ215 ?hy215 (by assumption) ?_
  case hi215 => (simp only [List.getElem?_toArray, List.getElem?_cons_succ, List.getElem?_cons_zero]; rfl)
  case hQ215 => exact fun _ _ _ h => hQp _ _ _ _ _ h
  case hy215 => (refine Or.inl ⟨by rfl, ?_⟩; intro w hSw; obtain ⟨d0, d1, e0, e1, e2, e3, m0, m1, m2, m3, m4, _⟩ := hSw; go_simp; try with_reducible rfl)
  try simp only [Act.put, List.setIfInBounds_toArray, List.set_cons_zero, List.set_cons_succ]
  refine wpAnyH_take (i := 23) (oi := ?oi216) (v := undef) ?hi216 (by kernel_rfl) (by kernel_rfl) (by kernel_rfl) ?hQ216 ?hy216 (by assumption) ?_
  case hi216 => (simp only [List.getElem?_toArray, List.getElem?_cons_succ, List.getElem?_cons_zero]; rfl)
  case hQ216 => exact fun _ _ _ h => hQp _ _ _ _ _ h
  case hy216 => exact Or.inr ⟨by rfl, rfl⟩
  try simp only [Act.put, List.setIfInBounds_toArray, List.set_cons_zero, List.set_cons_succ]
  refine wpAnyH_take (i := 24) (oi := ?oi217) (v := undef) ?hi217 (by kernel_rfl) (by kernel_rfl) (by kernel_rfl) ?hQ217 ?hy217 (by assumption) ?_
  case hi217 => (simp only [List.getElem?_toArray, List.getElem?_cons_succ, List.getElem?_cons_zero]; rfl)
  case hQ217 => exact fun _ _ _ h => hQp _ _ _ _ _ h
  case hy217 => exact Or.inr ⟨by rfl, rfl⟩
  try simp only [Act.put, List.setIfInBounds_toArray, List.set_cons_zero, List.set_cons_succ]
  refine wpAnyH_take (i := 25) (oi := ?oi218) (v := undef) ?hi218 (by kernel_rfl) (by kernel_rfl) (by kernel_rfl) ?hQ218 ?hy218 (by assumption) ?_
  case hi218 => (simp only [List.getElem?_toArray, List.getElem?_cons_succ, List.getElem?_cons_zero]; rfl)
  case hQ218 => exact fun _ _ _ h => hQp _ _ _ _ _ h
  case hy218 => exact Or.inr ⟨by rfl, rfl⟩
  try simp only [Act.put, List.setIfInBounds_toArray, List.set_cons_zero, List.set_cons_succ]
  refine wpAnyH_take (i := 26) (oi := ?oi219) (v := ?v219) ?hi219 (by kernel_rfl) (by kernel_rfl) (by kernel_rfl) ?hQ219 ?hy219 (by assumption) ?_
  case hi219 => (simp only [List.getElem?_toArray, List.getElem?_cons_succ, List.getElem?_cons_zero]; rfl)
  case hQ219 => exact fun _ _ _ h => hQp _ _ _ _ _ h
  case hy219 => (refine Or.inl ⟨by rfl, ?_⟩; intro w hSw; obtain ⟨d0, d1, e0, e1, e2, e3, m0, m1, m2, m3, m4, _⟩ := hSw; go_simp; try with_reducible rfl)
  try simp only [Act.put, List.setIfInBounds_toArray, List.set_cons_zero, List.set_cons_succ]
  refine wpAnyH_take (i := 27) (oi := ?oi220) (v := ?v220) ?hi220 (by kernel_rfl) (by kernel_rfl) (by kernel_rfl) ?hQ220 ?hy220 (by assumption) ?_
  case hi220 => (simp only [List.getElem?_toArray, List.getElem?_cons_succ, List.getElem?_cons_zero]; rfl)
  case hQ220 => exact fun _ _ _ h => hQp _ _ _ _ _ h
  case hy220 => (refine Or.inl ⟨by rfl, ?_⟩; intro w hSw; obtain ⟨d0, d1, e0, e1, e2, e3, m0, m1, m2, m3, m4, _⟩ := hSw; go_simp; try with_reducible rfl)
  try simp only [Act.put, List.setIfInBounds_toArray, List.set_cons_zero, List.set_cons_succ]
  refine wpAnyH_take (i := 28) (oi := ?oi221) (v := ?v221) ?hi221 (by kernel_rfl) (by kernel_rfl) (by kernel_rfl) ?hQ221 ?hy221 (by assumption) ?_
  case hi221 => (simp only [List.getElem?_toArray, List.getElem?_cons_succ, List.getElem?_cons_zero]; rfl)
  case hQ221 => exact fun _ _ _ h => hQp _ _ _ _ _ h
  case hy221 => (refine Or.inl ⟨by rfl, ?_⟩; intro w hSw; obtain ⟨d0, d1, e0, e1, e2, e3, m0, m1, m2, m3, m4, _⟩ := hSw; go_simp; try with_reducible rfl)
  try simp only [Act.put, List.setIfInBounds_toArray, List.set_cons_zero, List.set_cons_succ]
  refine wpAnyH_take (i := 29) (oi := ?oi222) (v := ?v222) ?hi222 (by kernel_rfl) (by kernel_rfl) (by kernel_rfl) ?hQ222 ?hy222 (by assumption) ?_
  case hi222 => (simp only [List.getElem?_toArray, List.getElem?_cons_succ, List.getElem?_cons_zero]; rfl)
  case hQ222 => exact fun _ _ _ h => hQp _ _ _ _ _ h
  case hy222 => (refine Or.inl ⟨by rfl, ?_⟩; intro w hSw; obtain ⟨d0, d1, e0, e1, e2, e3, m0, m1, m2, m3, m4, _⟩ := hSw; go_simp; try with_reducible rfl)
  try simp only [Act.put, List.setIfInBounds_toArray, List.set_cons_zero, List.set_cons_succ]
  refine wpAnyH_take (i := 30) (oi := ?oi223) (v := ?v223) ?hi223 (by kernel_rfl) (by kernel_rfl) (by kernel_rfl) ?hQ223 ?hy223 (by assumption) ?_
  case hi223 => (simp only [List.getElem?_toArray, List.getElem?_cons_succ, List.getElem?_cons_zero]; rfl)
  case hQ223 => exact fun _ _ _ h => hQp _ _ _ _ _ h
  case hy223 => (refine Or.inl ⟨by rfl, ?_⟩; intro w hSw; obtain ⟨d0, d1, e0, e1, e2, e3, m0, m1, m2, m3, m4, _⟩ := hSw; go_simp; try with_reducible rfl)
  try simp only [Act.put, List.setIfInBounds_toArray, List.set_cons_zero, List.set_cons_succ]
  refine wpAnyH_take (i := 31) (oi := ?oi224) (v := ?v224) ?hi224 (by kernel_rfl) (by kernel_rfl) (by kernel_rfl) ?hQ224 ?hy224 (by assumption) ?_
  case hi224 => (simp only [List.getElem?_toArray, List.getElem?_cons_succ, List.getElem?_cons_zero]; rfl)
  case hQ224 => exact fun _ _ _ h => hQp _ _ _ _ _ h
  case hy224 => (refine Or.inl ⟨by rfl, ?_⟩; intro w hSw; obtain ⟨d0, d1, e0, e1, e2, e3, m0, m1, m2, m3, m4, _⟩ := hSw; go_simp; try with_reducible rfl)
  try simp only [Act.put, List.setIfInBounds_toArray, List.set_cons_zero, List.set_cons_succ]
  refine wpAnyH_take (i := 32) (oi := ?oi225) (v := ?v225) ?hi225 (by kernel_rfl) (by kernel_rfl) (by kernel_rfl) ?hQ225 ?hy225 (by assumption) ?_
  case hi225 => (simp only [List.getElem?_toArray, List.getElem?_cons_succ, List.getElem?_cons_zero]; rfl)
  case hQ225 => exact fun _ _ _ h => hQp _ _ _ _ _ h
  case hy225 => (refine Or.inl ⟨by rfl, ?_⟩; intro w hSw; obtain ⟨d0, d1, e0, e1, e2, e3, m0, m1, m2, m3, m4, _⟩ := hSw; go_simp; try with_reducible rfl)
  try simp only [Act.put, List.setIfInBounds_toArray, List.set_cons_zero, List.set_cons_succ]
  refine wpAnyH_take (i := 33) (oi := ?oi226) (v := ?v226) ?hi226 (by kernel_rfl) (by kernel_rfl) (by kernel_rfl) ?hQ226 ?hy226 (by assumption) ?_
  case hi226 => (simp only [List.getElem?_toArray, List.getElem?_cons_succ, List.getElem?_cons_zero]; rfl)
  case hQ226 => exact fun _ _ _ h => hQp _ _ _ _ _ h
  case hy226 => (refine Or.inl ⟨by rfl, ?_⟩; intro w hSw; obtain ⟨d0, d1, e0, e1, e2, e3, m0, m1, m2, m3, m4, _⟩ := hSw; go_simp; try with_reducible rfl)
  try simp only [Act.put, List.setIfInBounds_toArray, List.set_cons_zero, List.set_cons_succ]
  refine wpAnyH_take (i := 34) (oi := ?oi227) (v := ?v227) ?hi227 (by kernel_rfl) (by kernel_rfl) (by kernel_rfl) ?hQ227 ?hy227 (by assumption) ?_
  case hi227 => (simp only [List.getElem?_toArray, List.getElem?_cons_succ, List.getElem?_cons_zero]; rfl)
  case hQ227 => exact fun _ _ _ h => hQp _ _ _ _ _ h
  case hy227 => (refine Or.inl ⟨by rfl, ?_⟩; intro w hSw; obtain ⟨d0, d1, e0, e1, e2, e3, m0, m1, m2, m3, m4, _⟩ := hSw; go_simp; try with_reducible rfl)
  try simp only [Act.put, List.setIfInBounds_toArray, List.set_cons_zero, List.set_cons_succ]
  refine wpAnyH_take (i := 35) (oi := ?oi228) (v := ?v228) ?hi228 (by kernel_rfl) (by kernel_rfl) (by kernel_rfl) ?hQ228 ?hy228 (by assumption) ?_
  case hi228 => (simp only [List.getElem?_toArray, List.getElem?_cons_succ, List.getElem?_cons_zero]; rfl)
  case hQ228 => exact fun _ _ _ h => hQp _ _ _ _ _ h
  case hy228 => (refine Or.inl ⟨by rfl, ?_⟩; intro w hSw; obtain ⟨d0, d1, e0, e1, e2, e3, m0, m1, m2, m3, m4, _⟩ := hSw; go_simp; try with_reducible rfl)
  try simp only [Act.put, List.setIfInBounds_toArray, List.set_cons_zero, List.set_cons_succ]
  refine wpAnyH_take (i := 36) (oi := ?oi229) (v := ?v229) ?hi229 (by kernel_rfl) (by kernel_rfl) (by kernel_rfl) ?hQ229 ?hy229 (by assumption) ?_
  case hi229 => (simp only [List.getElem?_toArray, List.getElem?_cons_succ, List.getElem?_cons_zero]; rfl)
  case hQ229 => exact fun _ _ _ h => hQp _ _ _ _ _ h
  case hy229 => (refine Or.inl ⟨by rfl, ?_⟩; intro w hSw; obtain ⟨d0, d1, e0, e1, e2, e3, m0, m1, m2, m3, m4, _⟩ := hSw; go_simp; try with_reducible rfl)
  try simp only [Act.put, List.setIfInBounds_toArray, List.set_cons_zero, List.set_cons_succ]
  refine wpAnyH_take (i := 37) (oi := ?oi230) (v := ?v230) ?hi230 (by kernel_rfl) (by kernel_rfl) (by kernel_rfl) ?hQ230 ?hy230 (by assumption) ?_
  case hi230 => (simp only [List.getElem?_toArray, List.getElem?_cons_succ, List.getElem?_cons_zero]; rfl)
  case hQ230 => exact fun _ _ _ h => hQp _ _ _ _ _ h
  case hy230 => (refine Or.inl ⟨by rfl, ?_⟩; intro w hSw; obtain ⟨d0, d1, e0, e1, e2, e3, m0, m1, m2, m3, m4, _⟩ := hSw; go_simp; try with_reducible rfl)
  try simp only [Act.put, List.setIfInBounds_toArray, List.set_cons_zero, List.set_cons_succ]
  refine wpAnyH_take (i := 38) (oi := ?oi231) (v := ?v231) ?hi231 (by kernel_rfl) (by kernel_rfl) (by kernel_rfl) ?hQ231 ?hy231 (by assumption) ?_
  case hi231 => (simp only [List.getElem?_toArray, List.getElem?_cons_succ, List.getElem?_cons_zero]; rfl)
  case hQ231 => exact fun _ _ _ h => hQp _ _ _ _ _ h
  case hy231 => (refine Or.inl ⟨by rfl, ?_⟩; intro w hSw; obtain ⟨d0, d1, e0, e1, e2, e3, m0, m1, m2, m3, m4, _⟩ := hSw; go_simp; try with_reducible rfl)
  try simp only [Act.put, List.setIfInBounds_toArray, List.set_cons_zero, List.set_cons_succ]
  refine wpAnyH_take (i := 39) (oi := ?oi232) (v := ?v232) ?hi232 (by kernel_rfl) (by kernel_rfl) (by kernel_rfl) ?hQ232 ?hy232 (by assumption) ?_
  case hi232 => (simp only [List.getElem?_toArray, List.getElem?_cons_succ, List.getElem?_cons_zero]; rfl)
  case hQ232 => exact fun _ _ _ h => hQp _ _ _ _ _ h
  case hy232 => (refine Or.inl ⟨by rfl, ?_⟩; intro w hSw; obtain ⟨d0, d1, e0, e1, e2, e3, m0, m1, m2, m3, m4, _⟩ := hSw; go_simp; try with_reducible rfl)
  try simp only [Act.put, List.setIfInBounds_toArray, List.set_cons_zero, List.set_cons_succ]
  refine wpAnyH_take (i := 40) (oi := ?oi233) (v := ?v233) ?hi233 (by kernel_rfl) (by kernel_rfl) (by kernel_rfl) ?hQ233 ?hy233 (by assumption) ?_
  case hi233 => (simp only [List.getElem?_toArray, List.getElem?_cons_succ, List.getElem?_cons_zero]; rfl)
  case hQ233 => exact fun _ _ _ h => hQp _ _ _ _ _ h
  case hy233 => (refine Or.inl ⟨by rfl, ?_⟩; intro w hSw; obtain ⟨d0, d1, e0, e1, e2, e3, m0, m1, m2, m3, m4, _⟩ := hSw; go_simp; try with_reducible rfl)
  try simp only [Act.put, List.setIfInBounds_toArray, List.set_cons_zero, List.set_cons_succ]
  refine wpAnyH_take (i := 41) (oi := ?oi234) (v := ?v234) ?hi234 (by kernel_rfl) (by kernel_rfl) (by kernel_rfl) ?hQ234 ?hy234 (by assumption) ?_
  case hi234 => (simp only [List.getElem?_toArray, List.getElem?_cons_succ, List.getElem?_cons_zero]; rfl)
  case hQ234 => exact fun _ _ _ h => hQp _ _ _ _ _ h
  case hy234 => (refine Or.inl ⟨by rfl, ?_⟩; intro w hSw; obtain ⟨d0, d1, e0, e1, e2, e3, m0, m1, m2, m3, m4, _⟩ := hSw; go_simp; try with_reducible rfl)
  try simp only [Act.put, List.setIfInBounds_toArray, List.set_cons_zero, List.set_cons_succ]
  refine wpAnyH_take (i := 42) (oi := ?oi235) (v := ?v235) ?hi235 (by kernel_rfl) (by kernel_rfl) (by kernel_rfl) ?hQ235 ?hy235 (by assumption) ?_
  case hi235 => (simp only [List.getElem?_toArray, List.getElem?_cons_succ, List.getElem?_cons_zero]; rfl)
  case hQ235 => exact fun _ _ _ h => hQp _ _ _ _ _ h
  case hy235 => (refine Or.inl ⟨by rfl, ?_⟩; intro w hSw; obtain ⟨d0, d1, e0, e1, e2, e3, m0, m1, m2, m3, m4, _⟩ := hSw; go_simp; try with_reducible rfl)
  try simp only [Act.put, List.setIfInBounds_toArray, List.set_cons_zero, List.set_cons_succ]
  refine wpAnyH_ready (rs := [43]) (by kernel_rfl) (by simp) ?_
  refine AllReadyH.cons (o := ?oi24043) ?ho24043 (fun K hK => ?_) AllReadyH.nil
  case ho24043 => (simp only [List.getElem?_toArray, List.getElem?_cons_succ, List.getElem?_cons_zero]; rfl)
  go_simp
  go_at_call 16; (with_reducible refine (cuts_any T 20 f c.to x.lev x.tick _ (HT8.out.same (RegR.b (by assumption)))).mono ?_); rintro e W9 ⟨rfl, hb9⟩; rw [HCt.out]
  refine hK.out _ _ ?_ (fun hHeld => ?_)
  · (try dsimp only); exact RegR.keep (by assumption) hb9
  clear hK K
  try simp only [Act.put, List.setIfInBounds_toArray, List.set_cons_zero, List.set_cons_succ]
  refine wpAnyH_take (i := 44) (oi := ?oi236) (v := ?v236) ?hi236 (by kernel_rfl) (by kernel_rfl) (by kernel_rfl) ?hQ236 ?hy236 (by assumption) ?_
  case hi236 => (simp only [List.getElem?_toArray, List.getElem?_cons_succ, List.getElem?_cons_zero]; rfl)
  case hQ236 => exact fun _ _ _ h => hQp _ _ _ _ _ h
  case hy236 => (refine Or.inl ⟨by rfl, ?_⟩; intro w hSw; obtain ⟨d0, d1, e0, e1, e2, e3, m0, m1, m2, m3, m4, _⟩ := hSw; go_simp; try with_reducible rfl)
  try simp only [Act.put, List.setIfInBounds_toArray, List.set_cons_zero, List.set_cons_succ]
  refine wpAnyH_take (i := 45) (oi := ?oi237) (v := ?v237) ?hi237 (by kernel_rfl) (by kernel_rfl) (by kernel_rfl) ?hQ237 ?hy237 (by assumption) ?_
  case hi237 => (simp only [List.getElem?_toArray, List.getElem?_cons_succ, List.getElem?_cons_zero]; rfl)
  case hQ237 => exact fun _ _ _ h => hQp _ _ _ _ _ h
  case hy237 => (refine Or.inl ⟨by rfl, ?_⟩; intro w hSw; obtain ⟨d0, d1, e0, e1, e2, e3, m0, m1, m2, m3, m4, _⟩ := hSw; go_simp; try with_reducible rfl)
  try simp only [Act.put, List.setIfInBounds_toArray, List.set_cons_zero, List.set_cons_succ]
  refine wpAnyH_take (i := 46) (oi := ?oi238) (v := ?v238) ?hi238 (by kernel_rfl) (by kernel_rfl) (by kernel_rfl) ?hQ238 ?hy238 (by assumption) ?_
  case hi238 => (simp only [List.getElem?_toArray, List.getElem?_cons_succ, List.getElem?_cons_zero]; rfl)
  case hQ238 => exact fun _ _ _ h => hQp _ _ _ _ _ h
  case hy238 => (refine Or.inl ⟨by rfl, ?_⟩; intro w hSw; obtain ⟨d0, d1, e0, e1, e2, e3, m0, m1, m2, m3, m4, _⟩ := hSw; go_simp; try with_reducible rfl)
  try simp only [Act.put, List.setIfInBounds_toArray, List.set_cons_zero, List.set_cons_succ]
  refine wpAnyH_take (i := 47) (oi := ?oi239) (v := ?v239) ?hi239 (by kernel_rfl) (by kernel_rfl) (by kernel_rfl) ?hQ239 ?hy239 (by assumption) ?_
  case hi239 => (simp only [List.getElem?_toArray, List.getElem?_cons_succ, List.getElem?_cons_zero]; rfl)
  case hQ239 => exact fun _ _ _ h => hQp _ _ _ _ _ h
  case hy239 => (refine Or.inl ⟨by rfl, ?_⟩; intro w hSw; obtain ⟨d0, d1, e0, e1, e2, e3, m0, m1, m2, m3, m4, _⟩ := hSw; go_simp; try with_reducible rfl)
  try simp only [Act.put, List.setIfInBounds_toArray, List.set_cons_zero, List.set_cons_succ]
  refine wpAnyH_done (by kernel_rfl) ?_ _
  exact hQ _ _ _ _ _ _ _ _ _ _ _ _ _ _ _ _ _ _ _ _ _ _ _ _ _ _ _ _ _ _ _ _ _ _ _ _ _ _ _ _ _ _ _ _ _ _ _ _ (by assumption)
end Go.Proofs.Ytgkmmoiniidhlaa
