/- EntryGood: a round. -/
import Derived.Test.YtdlpdpelhkgnlaaGreatDoorEgdb
import Derived.Test.YtdlpdpelhkgnlaaGreatDoorEgdc
import Derived.Test.YtdlpdpelhkgnlaaGreatDoorEgdd
import Derived.Test.YtdlpdpelhkgnlaaGreatDoorEgdf
import Derived.Test.YtdlpdpelhkgnlaaGreatDoorEgdg
namespace Go.Proofs.YtdlpdpelhkgnlaaGreatDoor
open Go Go.RowKit Go.Shelf Go.Sort
attribute [local go_sem] bneI

theorem own_sh2 {α : Type} {k : Nat} {enc : α → List Value} {W : World} {v : Value} {xs : List α} (h : RowK k enc W v xs) : ∃ p c, v = .slice p xs.length c := by
  obtain ⟨p, c, e, -⟩ := h.sh
  exact ⟨p, c, e⟩
set_option linter.unusedSimpArgs false in
set_option maxRecDepth 1000000 in
set_option maxHeartbeats 16000000 in
theorem goodQ {u0 u1 u2 u5 u6 u7 u8 u9 u10 u14 u15 u16 u17 u18 u19 u20 u21 u22 u23 u24 u25 u26 u27 u28 u29 u30 u31 u32 u33 u34 u35 u36 u37 u38 u39 u40 u41 u42 u43 u44 u45 u46 u47 u48 u49 u50 u51 u52 u53 u54 u55 u56 u57 u58 u59 u60 u61 u62 u63 u64 u65 u66 u67 u68 u69 u70 u71 u72 u73 u74 u75 u76 u77 u78 u79 u80 u81 u82 u83 u84 u85 u86 u87 u88 u89 u90 u91 u92 u93 u94 u95 u96 u97 u98 u99 u100 u101 u102 u103 u104 u105 u106 u107 u108 u109 u110 u111 u112 u113 u114 u115 u116 u117 u118 u119 u120 u121 u122 u123 u124 u125 u126 u127 u128 u129 u130 u131 u132 u133 u134 u135 u136 u137 u138 u139 u140 u141 u142 u143 u144 u145 u146 u147 u148 u149 u150 u151 u152 u153 u154 u155 u156 u157 u158 u159 u160 u161 u162 u163 u164 u165 u166 u167 u168 u169 u170 u171 u172 u173 u174 u175 u176 u177 u178 u179 u180 u181 u182 u183 u184 u185 u186 u187 u188 u189 u190 u191 u192 u193 u194 u195 u196 u197 u198 u199 u200 u201 u202 u203 u204 u205 u206 u207 u208 u209 u210 u211 u212 u213 u214 u215 u216 u217 u218 u219 u220 u221 u222 u223 u224 u225 u226 u227 u228 u229 u230 u231 u232 u233 u234 u235 u236 u237 u238 u239 u240 u241 u242 u243 u244 u245 u246 u247 u248 u249 u250 u251 u252 u253 u254 u255 u256 u257 u258 u259 u260 u261 u262 u263 u264 u265 u266 u267 u268 u269 u270 u271 u272 u273 u274 u275 u276 u277 u278 u279 u280 u281 u282 u283 u284 u285 u286 u287 u288 u289 u290 u291 u292 u293 u294 u295 u296 u297 u298 u299 u300 u301 u302 u303 u304 u305 u306 u307 u308 u309 u310 u311 u312 u313 u314 u315 u316 u317 u318 u319 u320 u321 u322 u323 u324 u325 u326 u327 u328 u329 u330 u331 : Value} {ds : List Deferred} (K0 K' : Act → World → Prop) (Q' : Exit → Act → World → Prop) (hrest : ∀ a w, (cB (codeR Tryz.f3)).wp Tryz.prog (Exit.inBlock 1 (Exit.then K' Q')) a w → K0 a w)
    (w : World) (x2 : EntP) (l : List FaP) (ns : List Int) (i k : Nat) (bx : Nat) (sv fv jv : Value) (p0 q0 : Option Addr) (c0 cq : Nat) (wr : World) (hWy : WayE w x2 bx sv fv jv wr) (hl : RowK 2 faE w (.slice p0 l.length c0) l) (hn : RowK 1 intE w (.slice q0 ns.length cq) ns) (hE : Env w)
    (hl0 : 0 < l.length) (hl1 : l.length ≤ 1000000) (hlt : ∀ g ∈ l, g.2.length ≤ 1000000) (hi : i < ns.length) (hk : k ≤ 1000) (hP : ∀ (c : List PanicEntry) (a : Act) (d : Tmp) (v : Value) (w : World), Q' (.panic c) (a.put (some d) v) w → Q' (.panic c) a w)
    (hK : ∀ (v10 v12 v14 v15 v16 v17 v18 v19 v20 v21 v22 v23 v24 v25 v86 v87 v88 v89 v90 v91 v92 v93 v94 v95 v96 v97 v98 v99 v100 v101 v102 v103 v104 v105 v106 v107 v108 v109 v110 v111 v112 v113 v114 v115 v116 v117 v118 v119 v120 v121 v122 v123 v124 v125 v126 v127 v128 v129 v130 v131 v132 v133 v134 v135 v136 v137 v138 v139 v140 v141 v142 v143 v144 v145 v146 v147 v148 v149 v150 v151 v152 v153 v154 v155 v156 v157 v158 v159 v160 v161 v162 v163 v164 v165 v166 v167 v168 v169 v170 v171 v172 v173 v174 v175 v176 v177 v178 v179 v180 v181 v182 v183 v184 v185 v186 v187 v188 v189 v190 v191 v192 v193 v194 v195 v196 v197 v198 v199 v200 v201 v202 v203 v204 v205 v206 v207 v208 v209 v210 v211 v212 v213 v214 v215 v216 v217 v218 v219 v220 v221 v222 v223 v224 v225 v226 v227 v228 v229 v230 v231 v232 v233 v234 v235 v236 v237 v238 v239 v240 v241 v242 v243 v244 v245 v246 v247 v248 v249 v250 v251 v252 v253 v254 v255 v256 v257 v258 v259 v260 v261 v262 v263 v264 v265 v266 v267 v268 v269 v270 v271 v272 v273 v274 v275 v276 v277 v278 v279 v280 v281 v282 v283 v284 v285 v286 v287 : Value) (W' : World), (∃ k1 : Nat, ∃ x' s' f' j', v12 = .int .i64 (k1 : Int) ∧ k1 ≤ k + 4 ∧ WayE w x' bx s' f' j' W') → K' ⟨(u0 :: u1 :: u2 :: .slice p0 l.length c0 :: .slice q0 ns.length cq :: u5 :: u6 :: u7 :: u8 :: u9 :: v10 :: .pointer (some ⟨bx, 0, none⟩) :: v12 :: .int .i64 (i : Int) :: v14 :: v15 :: v16 :: v17 :: v18 :: v19 :: v20 :: v21 :: v22 :: v23 :: v24 :: v25 :: u26 :: u27 :: u28 :: u29 :: u30 :: u31 :: u32 :: u33 :: u34 :: u35 :: u36 :: u37 :: u38 :: u39 :: u40 :: u41 :: u42 :: u43 :: u44 :: u45 :: u46 :: u47 :: u48 :: u49 :: u50 :: u51 :: u52 :: u53 :: u54 :: u55 :: u56 :: u57 :: u58 :: u59 :: u60 :: u61 :: u62 :: u63 :: u64 :: u65 :: u66 :: u67 :: u68 :: u69 :: u70 :: u71 :: u72 :: u73 :: u74 :: u75 :: u76 :: u77 :: u78 :: u79 :: u80 :: u81 :: u82 :: u83 :: u84 :: u85 :: v86 :: v87 :: v88 :: v89 :: v90 :: v91 :: v92 :: v93 :: v94 :: v95 :: v96 :: v97 :: v98 :: v99 :: v100 :: v101 :: v102 :: v103 :: v104 :: v105 :: v106 :: v107 :: v108 :: v109 :: v110 :: v111 :: v112 :: v113 :: v114 :: v115 :: v116 :: v117 :: v118 :: v119 :: v120 :: v121 :: v122 :: v123 :: v124 :: v125 :: v126 :: v127 :: v128 :: v129 :: v130 :: v131 :: v132 :: v133 :: v134 :: v135 :: v136 :: v137 :: v138 :: v139 :: v140 :: v141 :: v142 :: v143 :: v144 :: v145 :: v146 :: v147 :: v148 :: v149 :: v150 :: v151 :: v152 :: v153 :: v154 :: v155 :: v156 :: v157 :: v158 :: v159 :: v160 :: v161 :: v162 :: v163 :: v164 :: v165 :: v166 :: v167 :: v168 :: v169 :: v170 :: v171 :: v172 :: v173 :: v174 :: v175 :: v176 :: v177 :: v178 :: v179 :: v180 :: v181 :: v182 :: v183 :: v184 :: v185 :: v186 :: v187 :: v188 :: v189 :: v190 :: v191 :: v192 :: v193 :: v194 :: v195 :: v196 :: v197 :: v198 :: v199 :: v200 :: v201 :: v202 :: v203 :: v204 :: v205 :: v206 :: v207 :: v208 :: v209 :: v210 :: v211 :: v212 :: v213 :: v214 :: v215 :: v216 :: v217 :: v218 :: v219 :: v220 :: v221 :: v222 :: v223 :: v224 :: v225 :: v226 :: v227 :: v228 :: v229 :: v230 :: v231 :: v232 :: v233 :: v234 :: v235 :: v236 :: v237 :: v238 :: v239 :: v240 :: v241 :: v242 :: v243 :: v244 :: v245 :: v246 :: v247 :: v248 :: v249 :: v250 :: v251 :: v252 :: v253 :: v254 :: v255 :: v256 :: v257 :: v258 :: v259 :: v260 :: v261 :: v262 :: v263 :: v264 :: v265 :: v266 :: v267 :: v268 :: v269 :: v270 :: v271 :: v272 :: v273 :: v274 :: v275 :: v276 :: v277 :: v278 :: v279 :: v280 :: v281 :: v282 :: v283 :: v284 :: v285 :: v286 :: v287 :: u288 :: u289 :: u290 :: u291 :: u292 :: u293 :: u294 :: u295 :: u296 :: u297 :: u298 :: u299 :: u300 :: u301 :: u302 :: u303 :: u304 :: u305 :: u306 :: u307 :: u308 :: u309 :: u310 :: u311 :: u312 :: u313 :: u314 :: u315 :: u316 :: u317 :: u318 :: u319 :: u320 :: u321 :: u322 :: u323 :: u324 :: u325 :: u326 :: u327 :: u328 :: u329 :: u330 :: u331 :: []).toArray, ds⟩ W') : (cA (codeR Tryz.f3)).wp Tryz.prog (Exit.then K0 (Exit.inBlock 1 (Exit.then K' Q'))) ⟨(u0 :: u1 :: u2 :: .slice p0 l.length c0 :: .slice q0 ns.length cq :: u5 :: u6 :: u7 :: u8 :: u9 :: u10 :: .pointer (some ⟨bx, 0, none⟩) :: .int .i64 (k : Int) :: .int .i64 (i : Int) :: u14 :: u15 :: u16 :: u17 :: u18 :: u19 :: u20 :: u21 :: u22 :: u23 :: u24 :: u25 :: u26 :: u27 :: u28 :: u29 :: u30 :: u31 :: u32 :: u33 :: u34 :: u35 :: u36 :: u37 :: u38 :: u39 :: u40 :: u41 :: u42 :: u43 :: u44 :: u45 :: u46 :: u47 :: u48 :: u49 :: u50 :: u51 :: u52 :: u53 :: u54 :: u55 :: u56 :: u57 :: u58 :: u59 :: u60 :: u61 :: u62 :: u63 :: u64 :: u65 :: u66 :: u67 :: u68 :: u69 :: u70 :: u71 :: u72 :: u73 :: u74 :: u75 :: u76 :: u77 :: u78 :: u79 :: u80 :: u81 :: u82 :: u83 :: u84 :: u85 :: u86 :: u87 :: u88 :: u89 :: u90 :: u91 :: u92 :: u93 :: u94 :: u95 :: u96 :: u97 :: u98 :: u99 :: u100 :: u101 :: u102 :: u103 :: u104 :: u105 :: u106 :: u107 :: u108 :: u109 :: u110 :: u111 :: u112 :: u113 :: u114 :: u115 :: u116 :: u117 :: u118 :: u119 :: u120 :: u121 :: u122 :: u123 :: u124 :: u125 :: u126 :: u127 :: u128 :: u129 :: u130 :: u131 :: u132 :: u133 :: u134 :: u135 :: u136 :: u137 :: u138 :: u139 :: u140 :: u141 :: u142 :: u143 :: u144 :: u145 :: u146 :: u147 :: u148 :: u149 :: u150 :: u151 :: u152 :: u153 :: u154 :: u155 :: u156 :: u157 :: u158 :: u159 :: u160 :: u161 :: u162 :: u163 :: u164 :: u165 :: u166 :: u167 :: u168 :: u169 :: u170 :: u171 :: u172 :: u173 :: u174 :: u175 :: u176 :: u177 :: u178 :: u179 :: u180 :: u181 :: u182 :: u183 :: u184 :: u185 :: u186 :: u187 :: u188 :: u189 :: u190 :: u191 :: u192 :: u193 :: u194 :: u195 :: u196 :: u197 :: u198 :: u199 :: u200 :: u201 :: u202 :: u203 :: u204 :: u205 :: u206 :: u207 :: u208 :: u209 :: u210 :: u211 :: u212 :: u213 :: u214 :: u215 :: u216 :: u217 :: u218 :: u219 :: u220 :: u221 :: u222 :: u223 :: u224 :: u225 :: u226 :: u227 :: u228 :: u229 :: u230 :: u231 :: u232 :: u233 :: u234 :: u235 :: u236 :: u237 :: u238 :: u239 :: u240 :: u241 :: u242 :: u243 :: u244 :: u245 :: u246 :: u247 :: u248 :: u249 :: u250 :: u251 :: u252 :: u253 :: u254 :: u255 :: u256 :: u257 :: u258 :: u259 :: u260 :: u261 :: u262 :: u263 :: u264 :: u265 :: u266 :: u267 :: u268 :: u269 :: u270 :: u271 :: u272 :: u273 :: u274 :: u275 :: u276 :: u277 :: u278 :: u279 :: u280 :: u281 :: u282 :: u283 :: u284 :: u285 :: u286 :: u287 :: u288 :: u289 :: u290 :: u291 :: u292 :: u293 :: u294 :: u295 :: u296 :: u297 :: u298 :: u299 :: u300 :: u301 :: u302 :: u303 :: u304 :: u305 :: u306 :: u307 :: u308 :: u309 :: u310 :: u311 :: u312 :: u313 :: u314 :: u315 :: u316 :: u317 :: u318 :: u319 :: u320 :: u321 :: u322 :: u323 :: u324 :: u325 :: u326 :: u327 :: u328 :: u329 :: u330 :: u331 :: []).toArray, ds⟩ wr := by
  have HR := Lib.hid (And.intro hl (And.intro hn hE))
  have HL := Lib.hid (And.intro hl1 (And.intro hlt hl0))
  have HK := Lib.hid hK
  have HP := Lib.hid hP
  have HWy := Lib.hid hWy
  have hli : (i : Int) < (ns.length : Int) := by omega
  clear hl hn hE hl0 hl1 hlt hK hP
  conv => arg 2; whnf
  obtain ⟨b3, o3, rfl, hc3⟩ := HR.out.2.1.at i hi
  obtain ⟨v, hv⟩ : ∃ v, ns[i]? = some v := ⟨_, List.getElem?_eq_getElem hi⟩
  have hve : ns[i] = v := by rw [List.getElem?_eq_getElem hi] at hv; injection hv
  have hc3' := hc3 i hi
  rw [hve] at hc3'
  have hz0 : w.cell? ⟨b3, o3 + i, none⟩ = some (.int .i64 v) := by have := hc3' 0 _ rfl; simpa using this
  have HZ0 := Lib.hid hz0
  have z0 := (hWy.below.cell (p := ⟨_, _, none⟩) (cell_lt hz0)).trans hz0
  obtain ⟨p3, c3, rfl, -⟩ := hWy.at_.jo.sh
  have hbx := hWy.box
  unfold entC at hbx
  obtain ⟨-, -, -, -, -, -, -, -, -, x9⟩ := eboxAll hbx
  have hJ := hWy.few.pos
  have hJ4 := hWy.few.jobs
  clear hc3 hc3' hve hbx hWy hv hz0
  go_upto_region 10 with (fail)
  go_quiet (fail)
  obtain ⟨jk, hjl, hje⟩ := idx_of v hJ hJ4
  obtain ⟨j, hj⟩ : ∃ j, x2.jobs[jk]? = some j := ⟨_, List.getElem?_eq_getElem hjl⟩
  rw [hje]
  clear hje
  go_upto_region 11 with (fail)
  conv => arg 2; whnf
  go_upto_region 11 with (fail)
  have hbD : Below wr.heap.size wr (wr.drewN nq) := below_drewN (Below.refl _ _) _
  generalize hwd : wr.drewN nq = wd at hbD
  have hwq := HWy.out.keep hbD
  clear hwd hbD z0 x9
  refine goodF _ (Exit.inBlock 1 (Exit.then K' Q')) x2 jk j bx sv fv (.slice p3 x2.jobs.length c3) wd hwq.box hwq.at_ hwq.few hj (HR.out.2.2.keep hwq.below) (by intro c a d v w h; exact HP.out c a d v w h) ?_
  rintro v15 v97 v98 v99 v100 v101 v102 v103 v104 w10 ⟨⟨wp, wc, rfl, hws⟩, hb10⟩
  have hw10 := hwq.keep hb10
  have HW10 := Lib.hid (And.intro hw10 hws)
  have hwle := Nat.le_trans (waits_le x2 j.dom) hwq.few.fates
  obtain ⟨N, hN⟩ : ∃ N, N = (waitsM x2 j.dom).length := ⟨_, rfl⟩
  rw [← hN] at hwle HW10 ⊢
  have HN := Lib.hid hN
  clear hwq hb10 hw10 hws hN
  go_upto_region 13 with (fail)
  refine goodA _ _ _ (by assumption) l p0 wp N wc c0 k w10 (HR.out.1.below HW10.out.1.below) hwle HL.out.2.2 HL.out.1 (by omega) ?_
  rintro v12 v16 v17 v105 v106 v107 v108 v109 v110 v111 v112 v113 v114 v115 v116 v117 v118 v119 v120 v121 v122 w11 ⟨fl, hG⟩
  obtain ⟨k1, rfl, hk1⟩ := hG.cnt
  obtain ⟨fp, fd, rfl⟩ := own_shape hG.own
  have hw11 := HW10.out.1.keep hG.below
  have hz1 : w11.cell? ⟨b3, o3 + i, none⟩ = some (.int .i64 v) := (hw11.below.cell (p := ⟨_, _, none⟩) (cell_lt HZ0.out)).trans HZ0.out
  have hfs : RowK 2 faE w11 (.slice fp fl.length fd) fl := own_rowK (k := 2) (enc := faE) (fun _ => rfl) hG.own
  have hws := HW10.out.2.below hG.below
  have hfln := hG.len
  have hflt : ∀ g ∈ fl, g.2.length ≤ 1000000 := fun g hg => by
    exact HL.out.2.1 g (hG.mem g hg)
  have HG := Lib.hid (And.intro hw11 (And.intro hfs (And.intro hws (And.intro hfln hflt))))
  clear hG hw11 hfs hws hfln hflt
  go_upto_region 19 with (fail)
  obtain ⟨due, hdue⟩ : ∃ d, d = wrap64 ((IntKind.u64.wrap v).tmod 1000) := ⟨_, rfl⟩
  rw [← hdue]
  clear hdue hz1
  refine goodG _ (Exit.inBlock 1 (Exit.then K' Q')) x2 jk j fl due fp fd bx sv fv (.slice p3 x2.jobs.length c3) w11 HG.out.1.box HG.out.1.at_ HG.out.1.few hj HG.out.2.1 (by rw [HG.out.2.2.2.1]; omega) HG.out.2.2.2.2 (HR.out.2.2.keep HG.out.1.below) (by intro c a d v w h; exact HP.out c a d v w h) ?_
  rintro v19 v20 v130 v131 v132 v133 v134 v135 v136 v137 v138 v139 v140 v141 v142 w12 ⟨⟨by_, s2, f2, j2, rfl, rfl, hge, hby, hown⟩, hb12⟩
  have hw12 := HG.out.1.keep hb12
  have H12 := Lib.hid (And.intro hw12 (And.intro hby (And.intro hown (And.intro (HG.out.2.1.below hb12) (HG.out.2.2.1.below hb12)))))
  have hend := fun h => good_end hw12.few.may hj (l := fl) (due := due) h
  obtain ⟨ye, hye⟩ : ∃ ye, ye = endN x2 j.dom fl due := ⟨_, rfl⟩
  rw [← hye] at H12 hend ⊢
  have HEND := Lib.hid hend
  clear hw12 hby hown hb12 hye hend hge
  by_cases her : ye.2 = 0
  · have he0 : (ye.2 : Int) = 0 := by omega
    rw [he0]
    have hE1 := HEND.out her
    have hyx : ye.1 = endX x2 jk (waitsM x2 j.dom) fl due := hE1.1
    have hmayy : MayN ye.1 := by rw [hyx]; exact (mayN_iff _).1 hE1.2.2
    have hylen := end_lens x2 jk (waitsM x2 j.dom) fl due
    rw [← hyx] at hylen
    have hfewy : FewX ye.1 := few_may hmayy (by rw [hylen.1]; exact H12.out.1.few.short.mail)
    have hT : TwoE w12 x2 ye.1 bx by_ sv fv (.slice p3 x2.jobs.length c3) s2 f2 j2 := ⟨H12.out.1.box, H12.out.2.1, H12.out.1.at_, H12.out.2.2.1.at⟩
    have hyf : ∀ n v, x2.fates[n]? = some v → ye.1.fates[n]? = some (wantP (waitsM x2 j.dom) fl n v fl.length).1 := fun n v h => by rw [hyx]; exact good_fate x2 jk _ fl due h
    have hyj : ∀ n j, x2.jobs[n]? = some j → ye.1.jobs[n]? = some (if jk = n then bumpJ j due else j) := fun n j h => by rw [hyx]; exact good_job x2 jk _ fl due h
    have hyi : ye.1.id = x2.id ∧ ye.1.at_ = x2.at_ ∧ ye.1.plain = x2.plain := by rw [hyx]; exact ⟨rfl, rfl, rfl⟩
    have hNe := HN.out
    subst hNe
    have HY := Lib.hid (And.intro hfewy (And.intro hT (And.intro hyf (And.intro hyj (And.intro hyi (And.intro hylen hE1.2.1))))))
    clear hE1 hyx hmayy hylen hfewy hT hyf hyj hyi
    go_upto_region 21 with (fail)
    refine goodC _ _ _ (by assumption) x2 ye.1 (waitsM x2 j.dom) fl wp fp wc fd bx by_ sv fv (.slice p3 x2.jobs.length c3) s2 f2 j2 w12 HY.out.2.1 H12.out.1.few hwle HY.out.2.2.2.2.2.2 HY.out.2.2.2.2.2.1.2.1 H12.out.2.2.2.2 H12.out.2.2.2.1 HY.out.2.2.1 (fun n v p h h1 => good_wait h h1) ?_
    rintro v10 v21 v22 v23 v24 v145 v146 v147 v148 v149 v150 v151 v152 v153 v154 v155 v156 v157 v158 v159 v160 v161 v162 v163 v164 v165 v166 v167 v168 v169 v170 v171 v172 v173 v174 v175 v176 v177 v178 v179 v180 v181 v182 v183 v184 v185 v186 v187 v188 v189 v190 v191 v192 w13 hb13
    have hT13 := HY.out.2.1.keep hb13
    have H13 := Lib.hid hb13
    clear hb13
    go_upto_region 32 with (fail)
    refine goodD _ _ _ (by assumption) x2 ye.1 jk due bx by_ sv fv (.slice p3 x2.jobs.length c3) s2 f2 j2 w13 hT13 H12.out.1.few HY.out.2.2.2.2.2.1.2.2 HY.out.2.2.2.1 ?_
    rintro v10 v25 v193 v194 v195 v196 v197 v198 v199 v200 v201 v202 v203 v204 v205 v206 v207 v208 v209 v210 v211 v212 v213 v214 v215 v216 v217 v218 v219 v220 v221 v222 v223 v224 v225 v226 v227 v228 v229 v230 v231 v232 v233 v234 v235 v236 v237 v238 v239 v240 v241 v242 v243 v244 v245 v246 v247 v248 v249 v250 v251 v252 v253 v254 v255 v256 v257 v258 v259 v260 v261 v262 w14 hb14
    have hT14 := hT13.keep hb14
    have H14 := Lib.hid (And.intro hT14 (H13.out.trans (hb14.mono H13.out.size)))
    clear hT13 hb14 hT14
    obtain ⟨q1, d1, rfl⟩ := own_shape H12.out.2.2.1.rc
    obtain ⟨q2, d2, rfl⟩ := own_shape H12.out.2.2.1.fa
    obtain ⟨q3, d3, rfl⟩ := own_shape H12.out.2.2.1.jo
    obtain ⟨p1, c1, hsv⟩ := own_sh2 H14.out.1.x.rc
    obtain ⟨p2, c2, hfv⟩ := own_sh2 H14.out.1.x.fa
    subst hsv hfv
    go_upto_region 37 with (fail)
    have hby := H14.out.1.by_
    have hbx := H14.out.1.bx
    have hMy := may_any ye.1 _ _ _ w14 H14.out.1.y HY.out.1.short (HR.out.2.2.keep (H12.out.1.below.trans (H14.out.2.mono H12.out.1.below.size)))
    rw [(mayN_iff ye.1).2 HY.out.1.may] at hMy
    have hown := H12.out.2.2.1
    obtain ⟨hi0, hi1, hi2⟩ := HY.out.2.2.2.2.1
    have hbyE := H14.out.1.by_
    obtain ⟨yy, hyy⟩ : ∃ yy, yy = ye.1 := ⟨_, rfl⟩
    have hfy := HY.out.1
    rw [← hyy] at hMy hby hown hi0 hi1 hi2 hfy
    unfold entC at hbx hby
    unfold entV entC at hMy
    rw [hi0, hi1, hi2] at hMy hby
    have HO := Lib.hid (And.intro hown (And.intro hfy (And.intro hbx (And.intro hi0 (And.intro hi1 hi2)))))
    have HBY := Lib.hid hby
    obtain ⟨y0, y1, y2, y3, y4, y5, y6, y7, y8, y9⟩ := eboxAll hby
    clear hby hbx hown hi0 hi1 hi2 hbyE hfy hyy
    go_wp2_with fail
    refine hMy.mono ?_
    rintro e w15 ⟨rfl, hb15⟩
    have hbx := (hb15.block _ (lt_of_cells HO.out.2.2.1)).trans HO.out.2.2.1
    have hby := (hb15.block _ (lt_of_cells HBY.out)).trans HBY.out
    have HB := Lib.hid (And.intro hbx (And.intro hby (H14.out.2.trans (hb15.mono H14.out.2.size))))
    clear hMy hb15 y0 y1 y2 y3 y4 y5 y6 y7 y8 y9
    obtain ⟨x0, x1, x2', x3, x4, x5, x6, x7, x8, x9⟩ := eboxAll hbx
    obtain ⟨y0, y1, y2, y3, y4, y5, y6, y7, y8, y9⟩ := eboxAll hby
    have f0 := efroz hbx 0
    have f1 := efroz hbx 1
    have f2 := efroz hbx 2
    have f3 := efroz hbx 3
    have f4 := efroz hbx 4
    have f5 := efroz hbx 5
    have f6 := efroz hbx 6
    have f7 := efroz hbx 7
    have f8 := efroz hbx 8
    have f9 := efroz hbx 9
    clear hbx hby
    go_upto_region 39 with (fail)
    go_wp2
    clear x0 x1 x2' x3 x4 x5 x6 x7 x8 x9 y0 y1 y2 y3 y4 y5 y6 y7 y8 y9 f0 f1 f2 f3 f4 f5 f6 f7 f8 f9
    have hge := H12.out.1.ge
    have hb0 := HB.out.1
    have hB15 := H12.out.1.below.trans (HB.out.2.2.mono H12.out.1.below.size)
    have hBz := setAll_below (b := bx) hB15 hge (.int .i64 x2.id) (.int .i64 x2.at_) (.string ⟨yy.mail.sender.toArray⟩) (.slice q1 yy.mail.rcpts.length d1) (.bool yy.mail.req) (.string ⟨yy.mail.envid.toArray⟩) (.string ⟨yy.mail.text.toArray⟩) (.bool x2.plain) (.slice q2 yy.fates.length d2) (.slice q3 yy.jobs.length d3)
    have hbz := setAll_box hb0 (.int .i64 x2.id) (.int .i64 x2.at_) (.string ⟨yy.mail.sender.toArray⟩) (.slice q1 yy.mail.rcpts.length d1) (.bool yy.mail.req) (.string ⟨yy.mail.envid.toArray⟩) (.string ⟨yy.mail.text.toArray⟩) (.bool x2.plain) (.slice q2 yy.fates.length d2) (.slice q3 yy.jobs.length d3)
    have ho15 : OwnE w15 w11.heap.size yy (.slice q1 yy.mail.rcpts.length d1) (.slice q2 yy.fates.length d2) (.slice q3 yy.jobs.length d3) :=
      ⟨HO.out.1.rc.kept (grownBy_of_below HB.out.2.2 none) (Classical.em _), HO.out.1.fa.kept (grownBy_of_below HB.out.2.2 none) (Classical.em _), HO.out.1.jo.kept (grownBy_of_below HB.out.2.2 none) (Classical.em _)⟩
    have hoz : OwnE (setAll w15 bx (.int .i64 x2.id) (.int .i64 x2.at_) (.string ⟨yy.mail.sender.toArray⟩) (.slice q1 yy.mail.rcpts.length d1) (.bool yy.mail.req) (.string ⟨yy.mail.envid.toArray⟩) (.string ⟨yy.mail.text.toArray⟩) (.bool x2.plain) (.slice q2 yy.fates.length d2) (.slice q3 yy.jobs.length d3)) w11.heap.size yy (.slice q1 yy.mail.rcpts.length d1) (.slice q2 yy.fates.length d2) (.slice q3 yy.jobs.length d3) :=
      ⟨own_set ho15.rc hb0 (by decide) _ _ _ _ _ _ _ _ _ _, own_set ho15.fa hb0 (by decide) _ _ _ _ _ _ _ _ _ _, own_set ho15.jo hb0 (by decide) _ _ _ _ _ _ _ _ _ _⟩
    obtain ⟨w16, hw16⟩ : ∃ w16, w16 = setAll w15 bx (.int .i64 x2.id) (.int .i64 x2.at_) (.string ⟨yy.mail.sender.toArray⟩) (.slice q1 yy.mail.rcpts.length d1) (.bool yy.mail.req) (.string ⟨yy.mail.envid.toArray⟩) (.string ⟨yy.mail.text.toArray⟩) (.bool x2.plain) (.slice q2 yy.fates.length d2) (.slice q3 yy.jobs.length d3) := ⟨_, rfl⟩
    rw [← hw16] at hBz hbz hoz
    unfold setAll at hw16
    rw [← hw16]
    exact HK.out _ _ _ _ _ _ _ _ _ _ _ _ _ _ _ _ _ _ _ _ _ _ _ _ _ _ _ _ _ _ _ _ _ _ _ _ _ _ _ _ _ _ _ _ _ _ _ _ _ _ _ _ _ _ _ _ _ _ _ _ _ _ _ _ _ _ _ _ _ _ _ _ _ _ _ _ _ _ _ _ _ _ _ _ _ _ _ _ _ _ _ _ _ _ _ _ _ _ _ _ _ _ _ _ _ _ _ _ _ _ _ _ _ _ _ _ _ _ _ _ _ _ _ _ _ _ _ _ _ _ _ _ _ _ _ _ _ _ _ _ _ _ _ _ _ _ _ _ _ _ _ _ _ _ _ _ _ _ _ _ _ _ _ _ _ _ _ _ _ _ _ _ _ _ _ _ _ _ _ _ _ _ _ _ _ _ _ _ _ _ _ _ _ _ _ _ _ _ _ _ _ _ _ _ _ _ _ _ _ _ _ _ _ _ _ _ _ ⟨k1, yy, _, _, _, rfl, by omega, ⟨hBz, by unfold entC; rw [HO.out.2.2.2.1, HO.out.2.2.2.2.1, HO.out.2.2.2.2.2]; exact hbz, hoz.at, HO.out.2.1, hge⟩⟩
  · have he1 : ((ye.2 : Int) == 0) = false := by simpa using her
    have he2 : decide ((ye.2 : Int) = 0) = false := by simpa using her
    have he3 : decide (ye.2 = 0) = false := by simpa using her
    have he4 : ¬ (ye.2 : Int) = 0 := by omega
    have HK1 := hk1
    go_wp2
    exact HK.out _ _ _ _ _ _ _ _ _ _ _ _ _ _ _ _ _ _ _ _ _ _ _ _ _ _ _ _ _ _ _ _ _ _ _ _ _ _ _ _ _ _ _ _ _ _ _ _ _ _ _ _ _ _ _ _ _ _ _ _ _ _ _ _ _ _ _ _ _ _ _ _ _ _ _ _ _ _ _ _ _ _ _ _ _ _ _ _ _ _ _ _ _ _ _ _ _ _ _ _ _ _ _ _ _ _ _ _ _ _ _ _ _ _ _ _ _ _ _ _ _ _ _ _ _ _ _ _ _ _ _ _ _ _ _ _ _ _ _ _ _ _ _ _ _ _ _ _ _ _ _ _ _ _ _ _ _ _ _ _ _ _ _ _ _ _ _ _ _ _ _ _ _ _ _ _ _ _ _ _ _ _ _ _ _ _ _ _ _ _ _ _ _ _ _ _ _ _ _ _ _ _ _ _ _ _ _ _ _ _ _ _ _ _ _ _ _ ⟨k1, x2, _, _, _, rfl, by omega, H12.out.1⟩
end Go.Proofs.YtdlpdpelhkgnlaaGreatDoor
