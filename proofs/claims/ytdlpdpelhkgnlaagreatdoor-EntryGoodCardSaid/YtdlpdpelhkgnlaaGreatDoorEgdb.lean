/- EntryGood: its loop that gathers fates. -/
import Derived.Test.YtdlpdpelhkgnlaaGreatDoorEgda
namespace Go.Proofs.YtdlpdpelhkgnlaaGreatDoor
open Go Go.RowKit Go.Shelf Go.Sort
attribute [local go_sem] bneI

set_option linter.unusedSimpArgs false in
set_option maxRecDepth 1000000 in
set_option maxHeartbeats 16000000 in
theorem goodA {u0 u1 u2 u4 u5 u6 u7 u8 u9 u10 u11 u13 u14 u17 u18 u19 u20 u21 u22 u23 u24 u25 u26 u27 u28 u29 u30 u31 u32 u33 u34 u35 u36 u37 u38 u39 u40 u41 u42 u43 u44 u45 u46 u47 u48 u49 u50 u51 u52 u53 u54 u55 u56 u57 u58 u59 u60 u61 u62 u63 u64 u65 u66 u67 u68 u69 u70 u71 u72 u73 u74 u75 u76 u77 u78 u79 u80 u81 u82 u83 u84 u85 u86 u87 u88 u89 u90 u91 u92 u93 u94 u95 u96 u97 u98 u99 u100 u101 u102 u103 u104 u105 u106 u107 u108 u109 u110 u111 u112 u113 u114 u115 u116 u117 u118 u119 u120 u121 u122 u123 u124 u125 u126 u127 u128 u129 u130 u131 u132 u133 u134 u135 u136 u137 u138 u139 u140 u141 u142 u143 u144 u145 u146 u147 u148 u149 u150 u151 u152 u153 u154 u155 u156 u157 u158 u159 u160 u161 u162 u163 u164 u165 u166 u167 u168 u169 u170 u171 u172 u173 u174 u175 u176 u177 u178 u179 u180 u181 u182 u183 u184 u185 u186 u187 u188 u189 u190 u191 u192 u193 u194 u195 u196 u197 u198 u199 u200 u201 u202 u203 u204 u205 u206 u207 u208 u209 u210 u211 u212 u213 u214 u215 u216 u217 u218 u219 u220 u221 u222 u223 u224 u225 u226 u227 u228 u229 u230 u231 u232 u233 u234 u235 u236 u237 u238 u239 u240 u241 u242 u243 u244 u245 u246 u247 u248 u249 u250 u251 u252 u253 u254 u255 u256 u257 u258 u259 u260 u261 u262 u263 u264 u265 u266 u267 u268 u269 u270 u271 u272 u273 u274 u275 u276 u277 u278 u279 u280 u281 u282 u283 u284 u285 u286 u287 u288 u289 u290 u291 u292 u293 u294 u295 u296 u297 u298 u299 u300 u301 u302 u303 u304 u305 u306 u307 u308 u309 u310 u311 u312 u313 u314 u315 u316 u317 u318 u319 u320 u321 u322 u323 u324 u325 u326 u327 u328 u329 u330 u331 : Value} {ds : List Deferred} (K' : Act → World → Prop) (Q' : Exit → Act → World → Prop) (K0 : Act → World → Prop) (hrest : ∀ a w, (cB (codeA Tryz.f3)).wp Tryz.prog (Exit.then K' Q') a w → K0 a w) (l : List FaP) (p0 wp : Option Addr) (n c c0 k0 : Nat) (W : World) (hl : RowK 2 faE W (.slice p0 l.length c0) l) (hn : n ≤ 4) (hl0 : 0 < l.length) (hl1 : l.length ≤ 1000000) (hk0 : k0 ≤ 1000)
    (hK : ∀ (v12 v16 v17 v105 v106 v107 v108 v109 v110 v111 v112 v113 v114 v115 v116 v117 v118 v119 v120 v121 v122 : Value) (W' : World), (∃ fl, Gath W l fl n k0 v12 v16 W') → K' ⟨(u0 :: u1 :: u2 :: .slice p0 l.length c0 :: u4 :: u5 :: u6 :: u7 :: u8 :: u9 :: u10 :: u11 :: v12 :: u13 :: u14 :: .slice wp n c :: v16 :: v17 :: u18 :: u19 :: u20 :: u21 :: u22 :: u23 :: u24 :: u25 :: u26 :: u27 :: u28 :: u29 :: u30 :: u31 :: u32 :: u33 :: u34 :: u35 :: u36 :: u37 :: u38 :: u39 :: u40 :: u41 :: u42 :: u43 :: u44 :: u45 :: u46 :: u47 :: u48 :: u49 :: u50 :: u51 :: u52 :: u53 :: u54 :: u55 :: u56 :: u57 :: u58 :: u59 :: u60 :: u61 :: u62 :: u63 :: u64 :: u65 :: u66 :: u67 :: u68 :: u69 :: u70 :: u71 :: u72 :: u73 :: u74 :: u75 :: u76 :: u77 :: u78 :: u79 :: u80 :: u81 :: u82 :: u83 :: u84 :: u85 :: u86 :: u87 :: u88 :: u89 :: u90 :: u91 :: u92 :: u93 :: u94 :: u95 :: u96 :: u97 :: u98 :: u99 :: u100 :: u101 :: u102 :: u103 :: u104 :: v105 :: v106 :: v107 :: v108 :: v109 :: v110 :: v111 :: v112 :: v113 :: v114 :: v115 :: v116 :: v117 :: v118 :: v119 :: v120 :: v121 :: v122 :: u123 :: u124 :: u125 :: u126 :: u127 :: u128 :: u129 :: u130 :: u131 :: u132 :: u133 :: u134 :: u135 :: u136 :: u137 :: u138 :: u139 :: u140 :: u141 :: u142 :: u143 :: u144 :: u145 :: u146 :: u147 :: u148 :: u149 :: u150 :: u151 :: u152 :: u153 :: u154 :: u155 :: u156 :: u157 :: u158 :: u159 :: u160 :: u161 :: u162 :: u163 :: u164 :: u165 :: u166 :: u167 :: u168 :: u169 :: u170 :: u171 :: u172 :: u173 :: u174 :: u175 :: u176 :: u177 :: u178 :: u179 :: u180 :: u181 :: u182 :: u183 :: u184 :: u185 :: u186 :: u187 :: u188 :: u189 :: u190 :: u191 :: u192 :: u193 :: u194 :: u195 :: u196 :: u197 :: u198 :: u199 :: u200 :: u201 :: u202 :: u203 :: u204 :: u205 :: u206 :: u207 :: u208 :: u209 :: u210 :: u211 :: u212 :: u213 :: u214 :: u215 :: u216 :: u217 :: u218 :: u219 :: u220 :: u221 :: u222 :: u223 :: u224 :: u225 :: u226 :: u227 :: u228 :: u229 :: u230 :: u231 :: u232 :: u233 :: u234 :: u235 :: u236 :: u237 :: u238 :: u239 :: u240 :: u241 :: u242 :: u243 :: u244 :: u245 :: u246 :: u247 :: u248 :: u249 :: u250 :: u251 :: u252 :: u253 :: u254 :: u255 :: u256 :: u257 :: u258 :: u259 :: u260 :: u261 :: u262 :: u263 :: u264 :: u265 :: u266 :: u267 :: u268 :: u269 :: u270 :: u271 :: u272 :: u273 :: u274 :: u275 :: u276 :: u277 :: u278 :: u279 :: u280 :: u281 :: u282 :: u283 :: u284 :: u285 :: u286 :: u287 :: u288 :: u289 :: u290 :: u291 :: u292 :: u293 :: u294 :: u295 :: u296 :: u297 :: u298 :: u299 :: u300 :: u301 :: u302 :: u303 :: u304 :: u305 :: u306 :: u307 :: u308 :: u309 :: u310 :: u311 :: u312 :: u313 :: u314 :: u315 :: u316 :: u317 :: u318 :: u319 :: u320 :: u321 :: u322 :: u323 :: u324 :: u325 :: u326 :: u327 :: u328 :: u329 :: u330 :: u331 :: []).toArray, ds⟩ W') : (cA (codeA Tryz.f3)).wp Tryz.prog (Exit.then K0 (Exit.then K' Q')) ⟨(u0 :: u1 :: u2 :: .slice p0 l.length c0 :: u4 :: u5 :: u6 :: u7 :: u8 :: u9 :: u10 :: u11 :: .int .i64 (k0 : Int) :: u13 :: u14 :: .slice wp n c :: .slice none 0 0 :: u17 :: u18 :: u19 :: u20 :: u21 :: u22 :: u23 :: u24 :: u25 :: u26 :: u27 :: u28 :: u29 :: u30 :: u31 :: u32 :: u33 :: u34 :: u35 :: u36 :: u37 :: u38 :: u39 :: u40 :: u41 :: u42 :: u43 :: u44 :: u45 :: u46 :: u47 :: u48 :: u49 :: u50 :: u51 :: u52 :: u53 :: u54 :: u55 :: u56 :: u57 :: u58 :: u59 :: u60 :: u61 :: u62 :: u63 :: u64 :: u65 :: u66 :: u67 :: u68 :: u69 :: u70 :: u71 :: u72 :: u73 :: u74 :: u75 :: u76 :: u77 :: u78 :: u79 :: u80 :: u81 :: u82 :: u83 :: u84 :: u85 :: u86 :: u87 :: u88 :: u89 :: u90 :: u91 :: u92 :: u93 :: u94 :: u95 :: u96 :: u97 :: u98 :: u99 :: u100 :: u101 :: u102 :: u103 :: u104 :: u105 :: u106 :: u107 :: u108 :: u109 :: u110 :: u111 :: u112 :: u113 :: u114 :: u115 :: u116 :: u117 :: u118 :: u119 :: u120 :: u121 :: u122 :: u123 :: u124 :: u125 :: u126 :: u127 :: u128 :: u129 :: u130 :: u131 :: u132 :: u133 :: u134 :: u135 :: u136 :: u137 :: u138 :: u139 :: u140 :: u141 :: u142 :: u143 :: u144 :: u145 :: u146 :: u147 :: u148 :: u149 :: u150 :: u151 :: u152 :: u153 :: u154 :: u155 :: u156 :: u157 :: u158 :: u159 :: u160 :: u161 :: u162 :: u163 :: u164 :: u165 :: u166 :: u167 :: u168 :: u169 :: u170 :: u171 :: u172 :: u173 :: u174 :: u175 :: u176 :: u177 :: u178 :: u179 :: u180 :: u181 :: u182 :: u183 :: u184 :: u185 :: u186 :: u187 :: u188 :: u189 :: u190 :: u191 :: u192 :: u193 :: u194 :: u195 :: u196 :: u197 :: u198 :: u199 :: u200 :: u201 :: u202 :: u203 :: u204 :: u205 :: u206 :: u207 :: u208 :: u209 :: u210 :: u211 :: u212 :: u213 :: u214 :: u215 :: u216 :: u217 :: u218 :: u219 :: u220 :: u221 :: u222 :: u223 :: u224 :: u225 :: u226 :: u227 :: u228 :: u229 :: u230 :: u231 :: u232 :: u233 :: u234 :: u235 :: u236 :: u237 :: u238 :: u239 :: u240 :: u241 :: u242 :: u243 :: u244 :: u245 :: u246 :: u247 :: u248 :: u249 :: u250 :: u251 :: u252 :: u253 :: u254 :: u255 :: u256 :: u257 :: u258 :: u259 :: u260 :: u261 :: u262 :: u263 :: u264 :: u265 :: u266 :: u267 :: u268 :: u269 :: u270 :: u271 :: u272 :: u273 :: u274 :: u275 :: u276 :: u277 :: u278 :: u279 :: u280 :: u281 :: u282 :: u283 :: u284 :: u285 :: u286 :: u287 :: u288 :: u289 :: u290 :: u291 :: u292 :: u293 :: u294 :: u295 :: u296 :: u297 :: u298 :: u299 :: u300 :: u301 :: u302 :: u303 :: u304 :: u305 :: u306 :: u307 :: u308 :: u309 :: u310 :: u311 :: u312 :: u313 :: u314 :: u315 :: u316 :: u317 :: u318 :: u319 :: u320 :: u321 :: u322 :: u323 :: u324 :: u325 :: u326 :: u327 :: u328 :: u329 :: u330 :: u331 :: []).toArray, ds⟩ W := by
  obtain ⟨i0, hi0, hz0, hz1, hz2⟩ := info_parts infoF
  have HX := Lib.hid (And.intro hl (And.intro hl0 (And.intro hl1 hk0)))
  have HK := Lib.hid hK
  clear hl hl0 hl1 hk0 hK
  conv => arg 2; whnf
  go_wp2_with fail
  conv => arg 2; whnf
  go_wp2_with fail
  go_loopw [12, 16, 17] (fun s12 s16 s17 wr => ∃ (i : Nat) (fl : List FaP), s17 = .int .i64 (i : Int) ∧ i ≤ n ∧ Gath W l fl i k0 s12 s16 wr) (fun _ _ s17 _ => n - natI s17)
  case atStart => exact ⟨0, [], rfl, Nat.zero_le _, ⟨⟨rfl, .inl ⟨rfl, rfl⟩⟩, rfl, fun _ h => (by cases h), Below.refl _ _, ⟨k0, rfl, Nat.le_refl _⟩⟩⟩
  case round =>
    obtain ⟨i, fl, rfl, hi, hG⟩ := hrel
    obtain ⟨k, rfl, hk⟩ := hG.cnt
    have HG := Lib.hid hG
    by_cases hlast : i < n
    · have hli : (i : Int) < (n : Int) := by omega
      have hkm : k % l.length < l.length := Nat.mod_lt _ HX.out.2.1
      obtain ⟨b, o, rfl, hc0⟩ := (HX.out.1.below hG.below).at (k % l.length) hkm
      have hc := hc0 (k % l.length) hkm
      obtain ⟨f, hf⟩ : ∃ f, l[k % l.length]? = some f := ⟨_, List.getElem?_eq_getElem hkm⟩
      have hfe : l[k % l.length] = f := by rw [List.getElem?_eq_getElem hkm] at hf; injection hf
      rw [hfe] at hc
      have z0 : wr.cell? ⟨b, o + (k % l.length) * 2, none⟩ = some (.int .u8 (f.1 : Int)) := hc 0 _ rfl
      have z1 : wr.cell? ⟨b, o + (k % l.length) * 2 + 1, none⟩ = some (.string ⟨f.2.toArray⟩) := hc 1 _ rfl
      have hl0 : ¬ (l.length : Int) = 0 := by have := HX.out.2.1; omega
      have htm : Int.tmod (k : Int) (l.length : Int) = ((k % l.length : Nat) : Int) := rfl
      have hki : ((k % l.length : Nat) : Int) < (l.length : Int) := by omega
      have hk3 := HX.out.2.2.2
      have hwk : wrap64 ((k : Int) + 1) = (k : Int) + 1 := by unfold wrap64; omega
      have hwi : wrap64 ((i : Int) + 1) = (i : Int) + 1 := by unfold wrap64; omega
      have hfm : f ∈ l := List.mem_of_getElem? hf
      have hle := hG.len
      have HH := Lib.hid (And.intro hfm (And.intro hk hle))
      clear hc0 hc hf hfe hG hfm hk3 hk hle
      go_wp2_with (at_builtin; refine Bx.h ?_)
      refine ⟨?_⟩
      refine wpList_append_own _ rfl _ _ 25 rfl W.heap.size 42 i0 (.agg #[.int .u8 0, .string ⟨#[]⟩]) 2 24 Tryz.underlying25 hi0 hz0 hz1 hz2 rfl (by decide) _ _ _ rfl (HG.out.own.alloc _) ⟨wr.heap.size, 0, none⟩ 1 1 [.int .u8 (f.1 : Int), .string ⟨f.2.toArray⟩] rfl rfl (cell_list (cs := [.int .u8 (f.1 : Int), .string ⟨f.2.toArray⟩]) rfl) (by simp [Value.oneCell']) (by have := HH.out.2.2; unfold maxLen; omega) (by have := HH.out.2.2; omega) (by have h1 := HG.out.below.size; simp; omega) ?_
      intro v' w5 hown5 hgrow5 hnil5
      have hg : wr.grownBy w5 u16.ownBlock := World.grownBy.trans (World.grownBy_alloc _ _ _) hgrow5
      have hB5 := HG.out.below.grown hg HG.out.below.size (fun q e => (HG.out.own.lt q e).1)
      have hm : fl.flatMap faE ++ [.int .u8 (f.1 : Int), .string ⟨f.2.toArray⟩] = (fl ++ [f]).flatMap faE := by rw [List.flatMap_append]; rfl
      have hle5 : fl.length + 1 = (fl ++ [f]).length := by simp
      rw [hm, hle5] at hown5
      have HZ := Lib.hid (And.intro hown5 hB5)
      clear hown5 hgrow5 hnil5 hg hB5 hm hle5 z0 z1
      go_wp2
      go_roundw
      case rel => exact ⟨i + 1, fl ++ [f], by simp, by omega, ⟨HZ.out.1, by rw [List.length_append, HH.out.2.2]; rfl, fun g hg => (by rcases List.mem_append.1 hg with hg | hg; exact HG.out.mem g hg; exact (List.mem_singleton.1 hg) ▸ HH.out.1), HZ.out.2, ⟨k + 1, by simp [hwk], by have := HH.out.2.1; omega⟩⟩⟩
      case measure => simp [natI]; omega
    · have hli : ¬ (i : Int) < (n : Int) := by omega
      have hin : i = n := by omega
      clear hG
      subst hin
      go_wp2
      exact HK.out _ _ _ _ _ _ _ _ _ _ _ _ _ _ _ _ _ _ _ _ _ _ ⟨fl, HG.out⟩
end Go.Proofs.YtdlpdpelhkgnlaaGreatDoor
