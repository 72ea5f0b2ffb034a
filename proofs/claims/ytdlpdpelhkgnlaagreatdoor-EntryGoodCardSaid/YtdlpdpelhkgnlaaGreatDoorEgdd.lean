/- EntryGood: its loop over the jobs. -/
import Derived.Test.YtdlpdpelhkgnlaaGreatDoorEgda
namespace Go.Proofs.YtdlpdpelhkgnlaaGreatDoor
open Go Go.RowKit Go.Shelf Go.Sort
attribute [local go_sem] bneI

set_option linter.unusedSimpArgs false in
set_option maxRecDepth 1000000 in
set_option maxHeartbeats 16000000 in
theorem goodD {u0 u1 u2 u3 u4 u5 u6 u7 u8 u9 u10 u12 u13 u15 u16 u17 u20 u21 u22 u23 u24 u25 u26 u27 u28 u29 u30 u31 u32 u33 u34 u35 u36 u37 u38 u39 u40 u41 u42 u43 u44 u45 u46 u47 u48 u49 u50 u51 u52 u53 u54 u55 u56 u57 u58 u59 u60 u61 u62 u63 u64 u65 u66 u67 u68 u69 u70 u71 u72 u73 u74 u75 u76 u77 u78 u79 u80 u81 u82 u83 u84 u85 u86 u87 u88 u89 u90 u91 u92 u93 u94 u95 u96 u97 u98 u99 u100 u101 u102 u103 u104 u105 u106 u107 u108 u109 u110 u111 u112 u113 u114 u115 u116 u117 u118 u119 u120 u121 u122 u123 u124 u125 u126 u127 u128 u129 u130 u131 u132 u133 u134 u135 u136 u137 u138 u139 u140 u141 u142 u143 u144 u145 u146 u147 u148 u149 u150 u151 u152 u153 u154 u155 u156 u157 u158 u159 u160 u161 u162 u163 u164 u165 u166 u167 u168 u169 u170 u171 u172 u173 u174 u175 u176 u177 u178 u179 u180 u181 u182 u183 u184 u185 u186 u187 u188 u189 u190 u191 u192 u193 u194 u195 u196 u197 u198 u199 u200 u201 u202 u203 u204 u205 u206 u207 u208 u209 u210 u211 u212 u213 u214 u215 u216 u217 u218 u219 u220 u221 u222 u223 u224 u225 u226 u227 u228 u229 u230 u231 u232 u233 u234 u235 u236 u237 u238 u239 u240 u241 u242 u243 u244 u245 u246 u247 u248 u249 u250 u251 u252 u253 u254 u255 u256 u257 u258 u259 u260 u261 u262 u263 u264 u265 u266 u267 u268 u269 u270 u271 u272 u273 u274 u275 u276 u277 u278 u279 u280 u281 u282 u283 u284 u285 u286 u287 u288 u289 u290 u291 u292 u293 u294 u295 u296 u297 u298 u299 u300 u301 u302 u303 u304 u305 u306 u307 u308 u309 u310 u311 u312 u313 u314 u315 u316 u317 u318 u319 u320 u321 u322 u323 u324 u325 u326 u327 u328 u329 u330 u331 : Value} {ds : List Deferred} (K' : Act → World → Prop) (Q' : Exit → Act → World → Prop) (K0 : Act → World → Prop) (hrest : ∀ a w, (cB (codeD Tryz.f3)).wp Tryz.prog (Exit.then K' Q') a w → K0 a w) (x y : EntP) (k : Nat) (due : Int) (bx by_ : Nat) (sv fv jv sv2 fv2 jv2 : Value) (W : World)
    (hT : TwoE W x y bx by_ sv fv jv sv2 fv2 jv2) (hF : FewX x) (hl : y.jobs.length = x.jobs.length) (hj : ∀ n j, x.jobs[n]? = some j → y.jobs[n]? = some (if k = n then bumpJ j due else j))
    (hK : ∀ (v10 v25 v193 v194 v195 v196 v197 v198 v199 v200 v201 v202 v203 v204 v205 v206 v207 v208 v209 v210 v211 v212 v213 v214 v215 v216 v217 v218 v219 v220 v221 v222 v223 v224 v225 v226 v227 v228 v229 v230 v231 v232 v233 v234 v235 v236 v237 v238 v239 v240 v241 v242 v243 v244 v245 v246 v247 v248 v249 v250 v251 v252 v253 v254 v255 v256 v257 v258 v259 v260 v261 v262 : Value) (W' : World), Below W.heap.size W W' → K' ⟨(u0 :: u1 :: u2 :: u3 :: u4 :: u5 :: u6 :: u7 :: u8 :: u9 :: v10 :: .pointer (some ⟨bx, 0, none⟩) :: u12 :: u13 :: .int .i64 (k : Int) :: u15 :: u16 :: u17 :: .int .i64 due :: .pointer (some ⟨by_, 0, none⟩) :: u20 :: u21 :: u22 :: u23 :: u24 :: v25 :: u26 :: u27 :: u28 :: u29 :: u30 :: u31 :: u32 :: u33 :: u34 :: u35 :: u36 :: u37 :: u38 :: u39 :: u40 :: u41 :: u42 :: u43 :: u44 :: u45 :: u46 :: u47 :: u48 :: u49 :: u50 :: u51 :: u52 :: u53 :: u54 :: u55 :: u56 :: u57 :: u58 :: u59 :: u60 :: u61 :: u62 :: u63 :: u64 :: u65 :: u66 :: u67 :: u68 :: u69 :: u70 :: u71 :: u72 :: u73 :: u74 :: u75 :: u76 :: u77 :: u78 :: u79 :: u80 :: u81 :: u82 :: u83 :: u84 :: u85 :: u86 :: u87 :: u88 :: u89 :: u90 :: u91 :: u92 :: u93 :: u94 :: u95 :: u96 :: u97 :: u98 :: u99 :: u100 :: u101 :: u102 :: u103 :: u104 :: u105 :: u106 :: u107 :: u108 :: u109 :: u110 :: u111 :: u112 :: u113 :: u114 :: u115 :: u116 :: u117 :: u118 :: u119 :: u120 :: u121 :: u122 :: u123 :: u124 :: u125 :: u126 :: u127 :: u128 :: u129 :: u130 :: u131 :: u132 :: u133 :: u134 :: u135 :: u136 :: u137 :: u138 :: u139 :: u140 :: u141 :: u142 :: u143 :: u144 :: u145 :: u146 :: u147 :: u148 :: u149 :: u150 :: u151 :: u152 :: u153 :: u154 :: u155 :: u156 :: u157 :: u158 :: u159 :: u160 :: u161 :: u162 :: u163 :: u164 :: u165 :: u166 :: u167 :: u168 :: u169 :: u170 :: u171 :: u172 :: u173 :: u174 :: u175 :: u176 :: u177 :: u178 :: u179 :: u180 :: u181 :: u182 :: u183 :: u184 :: u185 :: u186 :: u187 :: u188 :: u189 :: u190 :: u191 :: u192 :: v193 :: v194 :: v195 :: v196 :: v197 :: v198 :: v199 :: v200 :: v201 :: v202 :: v203 :: v204 :: v205 :: v206 :: v207 :: v208 :: v209 :: v210 :: v211 :: v212 :: v213 :: v214 :: v215 :: v216 :: v217 :: v218 :: v219 :: v220 :: v221 :: v222 :: v223 :: v224 :: v225 :: v226 :: v227 :: v228 :: v229 :: v230 :: v231 :: v232 :: v233 :: v234 :: v235 :: v236 :: v237 :: v238 :: v239 :: v240 :: v241 :: v242 :: v243 :: v244 :: v245 :: v246 :: v247 :: v248 :: v249 :: v250 :: v251 :: v252 :: v253 :: v254 :: v255 :: v256 :: v257 :: v258 :: v259 :: v260 :: v261 :: v262 :: u263 :: u264 :: u265 :: u266 :: u267 :: u268 :: u269 :: u270 :: u271 :: u272 :: u273 :: u274 :: u275 :: u276 :: u277 :: u278 :: u279 :: u280 :: u281 :: u282 :: u283 :: u284 :: u285 :: u286 :: u287 :: u288 :: u289 :: u290 :: u291 :: u292 :: u293 :: u294 :: u295 :: u296 :: u297 :: u298 :: u299 :: u300 :: u301 :: u302 :: u303 :: u304 :: u305 :: u306 :: u307 :: u308 :: u309 :: u310 :: u311 :: u312 :: u313 :: u314 :: u315 :: u316 :: u317 :: u318 :: u319 :: u320 :: u321 :: u322 :: u323 :: u324 :: u325 :: u326 :: u327 :: u328 :: u329 :: u330 :: u331 :: []).toArray, ds⟩ W') : (cA (codeD Tryz.f3)).wp Tryz.prog (Exit.then K0 (Exit.then K' Q')) ⟨(u0 :: u1 :: u2 :: u3 :: u4 :: u5 :: u6 :: u7 :: u8 :: u9 :: u10 :: .pointer (some ⟨bx, 0, none⟩) :: u12 :: u13 :: .int .i64 (k : Int) :: u15 :: u16 :: u17 :: .int .i64 due :: .pointer (some ⟨by_, 0, none⟩) :: u20 :: u21 :: u22 :: u23 :: u24 :: u25 :: u26 :: u27 :: u28 :: u29 :: u30 :: u31 :: u32 :: u33 :: u34 :: u35 :: u36 :: u37 :: u38 :: u39 :: u40 :: u41 :: u42 :: u43 :: u44 :: u45 :: u46 :: u47 :: u48 :: u49 :: u50 :: u51 :: u52 :: u53 :: u54 :: u55 :: u56 :: u57 :: u58 :: u59 :: u60 :: u61 :: u62 :: u63 :: u64 :: u65 :: u66 :: u67 :: u68 :: u69 :: u70 :: u71 :: u72 :: u73 :: u74 :: u75 :: u76 :: u77 :: u78 :: u79 :: u80 :: u81 :: u82 :: u83 :: u84 :: u85 :: u86 :: u87 :: u88 :: u89 :: u90 :: u91 :: u92 :: u93 :: u94 :: u95 :: u96 :: u97 :: u98 :: u99 :: u100 :: u101 :: u102 :: u103 :: u104 :: u105 :: u106 :: u107 :: u108 :: u109 :: u110 :: u111 :: u112 :: u113 :: u114 :: u115 :: u116 :: u117 :: u118 :: u119 :: u120 :: u121 :: u122 :: u123 :: u124 :: u125 :: u126 :: u127 :: u128 :: u129 :: u130 :: u131 :: u132 :: u133 :: u134 :: u135 :: u136 :: u137 :: u138 :: u139 :: u140 :: u141 :: u142 :: u143 :: u144 :: u145 :: u146 :: u147 :: u148 :: u149 :: u150 :: u151 :: u152 :: u153 :: u154 :: u155 :: u156 :: u157 :: u158 :: u159 :: u160 :: u161 :: u162 :: u163 :: u164 :: u165 :: u166 :: u167 :: u168 :: u169 :: u170 :: u171 :: u172 :: u173 :: u174 :: u175 :: u176 :: u177 :: u178 :: u179 :: u180 :: u181 :: u182 :: u183 :: u184 :: u185 :: u186 :: u187 :: u188 :: u189 :: u190 :: u191 :: u192 :: u193 :: u194 :: u195 :: u196 :: u197 :: u198 :: u199 :: u200 :: u201 :: u202 :: u203 :: u204 :: u205 :: u206 :: u207 :: u208 :: u209 :: u210 :: u211 :: u212 :: u213 :: u214 :: u215 :: u216 :: u217 :: u218 :: u219 :: u220 :: u221 :: u222 :: u223 :: u224 :: u225 :: u226 :: u227 :: u228 :: u229 :: u230 :: u231 :: u232 :: u233 :: u234 :: u235 :: u236 :: u237 :: u238 :: u239 :: u240 :: u241 :: u242 :: u243 :: u244 :: u245 :: u246 :: u247 :: u248 :: u249 :: u250 :: u251 :: u252 :: u253 :: u254 :: u255 :: u256 :: u257 :: u258 :: u259 :: u260 :: u261 :: u262 :: u263 :: u264 :: u265 :: u266 :: u267 :: u268 :: u269 :: u270 :: u271 :: u272 :: u273 :: u274 :: u275 :: u276 :: u277 :: u278 :: u279 :: u280 :: u281 :: u282 :: u283 :: u284 :: u285 :: u286 :: u287 :: u288 :: u289 :: u290 :: u291 :: u292 :: u293 :: u294 :: u295 :: u296 :: u297 :: u298 :: u299 :: u300 :: u301 :: u302 :: u303 :: u304 :: u305 :: u306 :: u307 :: u308 :: u309 :: u310 :: u311 :: u312 :: u313 :: u314 :: u315 :: u316 :: u317 :: u318 :: u319 :: u320 :: u321 :: u322 :: u323 :: u324 :: u325 :: u326 :: u327 :: u328 :: u329 :: u330 :: u331 :: []).toArray, ds⟩ W := by
  obtain ⟨p3, c3, rfl, -⟩ := hT.x.jo.sh
  obtain ⟨q3, d3, rfl, -⟩ := hT.y.jo.sh
  have hF4 := hF.jobs
  have HX := Lib.hid (And.intro hT (And.intro hF (And.intro hl hj)))
  have HK := Lib.hid hK
  clear hT hF hl hj hK
  conv => arg 2; whnf
  go_wp2_with fail
  conv => arg 2; whnf
  go_wp2_with fail
  go_loopw [25] (fun s25 wr => ∃ n : Nat, s25 = .int .i64 (n : Int) ∧ n ≤ x.jobs.length ∧ Below W.heap.size W wr) (fun s25 _ => x.jobs.length - natI s25)
  case atStart => exact ⟨0, rfl, Nat.zero_le _, Below.refl _ _⟩
  case round =>
    obtain ⟨n, rfl, hn, hB⟩ := hrel
    have hT := HX.out.1.keep hB
    have HB := Lib.hid hB
    have hbx := hT.bx
    unfold entC at hbx
    obtain ⟨x0, x1, x2, x3, x4, x5, x6, x7, x8, x9⟩ := eboxAll hbx
    clear hB hbx x0 x1 x2 x3 x4 x5 x6 x7 x8
    by_cases hlast : n < x.jobs.length
    · have hli : (n : Int) < (x.jobs.length : Int) := by omega
      have hli2 : (n : Int) < (y.jobs.length : Int) := by rw [HX.out.2.2.1]; omega
      have hw1 : wrap64 ((n : Int) + 1) = (n : Int) + 1 := by unfold wrap64; omega
      have hby := hT.by_
      unfold entC at hby
      obtain ⟨y0, y1, y2, y3, y4, y5, y6, y7, y8, y9⟩ := eboxAll hby
      clear hby y0 y1 y2 y3 y4 y5 y6 y7 y8
      obtain ⟨b1, o1, rfl, hc1⟩ := hT.x.jo.at n hlast
      obtain ⟨b2, o2, rfl, hc2⟩ := hT.y.jo.at n (by rw [HX.out.2.2.1]; exact hlast)
      obtain ⟨j, hj⟩ : ∃ j, x.jobs[n]? = some j := ⟨_, List.getElem?_eq_getElem hlast⟩
      have hji : x.jobs[n] = j := by rw [List.getElem?_eq_getElem hlast] at hj; injection hj
      have hyj := HX.out.2.2.2 n j hj
      obtain ⟨hny, hyi⟩ := List.getElem?_eq_some_iff.1 hyj
      have hc1' := hc1 n hlast
      have hc2' := hc2 n hny
      rw [hji] at hc1'
      rw [hyi] at hc2'
      have z0 : wr.cell? ⟨b1, o1 + n * 3, none⟩ = some (.string ⟨j.dom.toArray⟩) := hc1' 0 _ rfl
      have z1 : wr.cell? ⟨b1, o1 + n * 3 + 1, none⟩ = some (.int .i64 j.tries) := hc1' 1 _ rfl
      have z2 : wr.cell? ⟨b1, o1 + n * 3 + 2, none⟩ = some (.int .i64 j.due) := hc1' 2 _ rfl
      have htr := jobsOk_in HX.out.2.1.may.jobs j (List.mem_of_getElem? hj)
      by_cases hkn : k = n
      · subst hkn
        rw [if_pos rfl] at hc2'
        have t0 : wr.cell? ⟨b2, o2 + k * 3, none⟩ = some (.string ⟨j.dom.toArray⟩) := hc2' 0 _ rfl
        have t1 : wr.cell? ⟨b2, o2 + k * 3 + 1, none⟩ = some (.int .i64 (min 98 j.tries + 1)) := hc2' 1 _ rfl
        have t2 : wr.cell? ⟨b2, o2 + k * 3 + 2, none⟩ = some (.int .i64 due) := hc2' 2 _ rfl
        have htm : min 98 j.tries + 1 = min 99 (j.tries + 1) := by omega
        have hwt : wrap64 (j.tries + 1) = j.tries + 1 := by have := htr.1; have := htr.2.1; unfold wrap64; omega
        rw [htm] at t1
        clear hc1 hc2 hc1' hc2' hj hji hyj hyi htr htm hT hny
        go_upto_region 35 with (fail)
        go_quiet (fail)
        clear x9 y9 z0 z1 z2 t0 t1 t2
        go_wp2
        go_roundw
        case rel => exact ⟨k + 1, by simp, by omega, HB.out.trans ((below_drewN (Below.refl _ _) _).mono HB.out.size)⟩
        case measure => simp [natI]; omega
      · rw [if_neg hkn] at hc2'
        have t0 : wr.cell? ⟨b2, o2 + n * 3, none⟩ = some (.string ⟨j.dom.toArray⟩) := hc2' 0 _ rfl
        have t1 : wr.cell? ⟨b2, o2 + n * 3 + 1, none⟩ = some (.int .i64 j.tries) := hc2' 1 _ rfl
        have t2 : wr.cell? ⟨b2, o2 + n * 3 + 2, none⟩ = some (.int .i64 j.due) := hc2' 2 _ rfl
        have e1 : ((n : Int) == (k : Int)) = false := by simp; omega
        have e2 : decide ((n : Int) = (k : Int)) = false := by simp; omega
        have e3 : decide (n = k) = false := by simp; omega
        clear hc1 hc2 hc1' hc2' hj hji hyj hyi htr hT hny hkn
        go_upto_region 35 with (fail)
        go_quiet (fail)
        clear x9 y9 z0 z1 z2 t0 t1 t2
        go_wp2
        go_roundw
        case rel => exact ⟨n + 1, by simp, by omega, HB.out.trans ((below_drewN (Below.refl _ _) _).mono HB.out.size)⟩
        case measure => simp [natI]; omega
    · have hli : ¬ (n : Int) < (x.jobs.length : Int) := by omega
      clear hT
      go_wp2
      exact HK.out _ _ _ _ _ _ _ _ _ _ _ _ _ _ _ _ _ _ _ _ _ _ _ _ _ _ _ _ _ _ _ _ _ _ _ _ _ _ _ _ _ _ _ _ _ _ _ _ _ _ _ _ _ _ _ _ _ _ _ _ _ _ _ _ _ _ _ _ _ _ _ _ _ HB.out
end Go.Proofs.YtdlpdpelhkgnlaaGreatDoor
