/- EntryGood: the walk. -/
import Derived.Test.YtdlpdpelhkgnlaaGreatDoorEgde
import Derived.Test.YtdlpdpelhkgnlaaGreatDoorEgdi
namespace Go.Proofs.YtdlpdpelhkgnlaaGreatDoor
open Go Go.RowKit Go.Shelf Go.Sort
attribute [local go_sem] bneI

set_option linter.unusedSimpArgs false in
set_option maxRecDepth 1000000 in
set_option maxHeartbeats 16000000 in
theorem goodLaw_any (m : MailP) (id at_ : Int) (l : List FaP) (ns : List Int) (sv : Value) (p0 q0 : Option Addr) (c0 cq : Nat) (w : World) (hm : RowK 2 rcE w sv m.rcpts) (hl : RowK 2 faE w (.slice p0 l.length c0) l) (hst : ∀ f ∈ l, f.1 < 256)
    (hn : RowK 1 intE w (.slice q0 ns.length cq) ns) (hE : Env w) :
    Calls Tryz.prog 3 #[mailV m sv, .int .i64 id, .int .i64 at_, .slice p0 l.length c0, .slice q0 ns.length cq] w fun e w' => e = .returned (.bool true) ∧ Below w.heap.size w w' := by
  obtain ⟨p, c, rfl, -⟩ := hm.sh
  obtain ⟨W1, hW1⟩ : ∃ W1, W1 = (w.alloc (.cells (mailC m (.slice p m.rcpts.length c)).toArray 24)) := ⟨_, rfl⟩
  have hB1 : Below w.heap.size w W1 := by rw [hW1]; exact (Below.refl _ w).alloc (Nat.le_refl _) _
  have hb1 : W1.heap[w.heap.size]? = some (.cells (mailC m (.slice p m.rcpts.length c)).toArray 24 (0, 0)) := by rw [hW1]; exact ha_eq rfl
  have hWk := works_any W1 (hE.keep hB1)
  have HX := Lib.hid (And.intro (hm.below hB1) (And.intro (hl.below hB1) (And.intro hst (And.intro (hn.below hB1) (And.intro (hE.keep hB1) hb1)))))
  have H1 := Lib.hid hB1
  have HR := Lib.hid (And.intro hl (And.intro hn hE))
  unfold mailV
  unfold mailC at hW1 ⊢
  obtain ⟨bm, hbm⟩ : ∃ bm, bm = w.heap.size := ⟨_, rfl⟩
  clear hm hl hst hn hE hB1 hb1
  go_enter Tryz.func3, Tryz.ntmps3
  go_upto_region 1 with (fail)
  rw [← hW1]
  clear hW1
  go_wp2_with fail
  refine hWk.mono ?_
  rintro e w2 ⟨rfl, hb2⟩
  have H2 := Lib.hid hb2
  have hbx := (hb2.block _ (lt_of_cells HX.out.2.2.2.2.2)).trans HX.out.2.2.2.2.2
  unfold mailC at hbx
  obtain ⟨x0, x1, x2, x3, x4⟩ := mbox hbx
  have hSz := size_any m _ w2 (HX.out.1.below hb2)
  unfold mailV mailC at hSz
  clear hWk hb2 hbx
  go_wp2_with fail
  refine hSz.mono ?_
  rintro e w3 ⟨⟨kk, rfl, hk9, hsm⟩, hb3⟩
  have H3 := Lib.hid (H2.out.trans (hb3.mono H2.out.size))
  clear hSz hb3 x0 x1 x2 x3 x4
  by_cases hk : kk < 9000
  · have hki : ¬ (kk : Int) ≥ 9000 := by omega
    have hki2 : (kk : Int) < 9000 := by omega
    have hki3 : ¬ (9000 : Int) ≤ (kk : Int) := by omega
    have HS := Lib.hid (hsm hk)
    clear hsm hk9
    go_wp2_with fail
    generalize hw4 : World.alloc _ _ = w4
    have hb4 : Below w3.heap.size w3 w4 := by rw [← hw4]; exact (Below.refl _ _).alloc (Nat.le_refl _) _
    have hx4 : w4.heap[w3.heap.size]? = some (.cells (entC (zeroL l) (.slice none 0 0) (.slice p0 l.length c0) (.slice none 0 0)).toArray 32 (0, 0)) := by rw [← hw4]; exact ha_eq rfl
    have H4 := Lib.hid (H3.out.trans (hb4.mono H3.out.size))
    have hLg := large_any [zeroL l] _ w3.heap.size 0 1 w4 (fun _ => rfl) (ents_one (x := zeroL l) (sv := .slice none 0 0) (fv := .slice p0 l.length c0) (jv := .slice none 0 0) ⟨RowK.nil, HX.out.2.1.below H4.out, RowK.nil⟩ hx4)
    clear hw4 hb4 hx4
    refine hLg.mono ?_
    rintro e w5 ⟨hp, hb5⟩
    obtain ⟨v, rfl, hsl⟩ := large_one hp
    have H5 := Lib.hid (H4.out.trans (hb5.mono H4.out.size))
    clear hLg hp hb5
    cases v with
    | true =>
      clear hsl
      have hW2 := works_any w5 (HX.out.2.2.2.2.1.keep H5.out)
      go_wp2_with fail
      refine hW2.mono ?_
      rintro e w9 ⟨rfl, hb9⟩
      have H9 := Lib.hid (H1.out.trans ((H5.out.trans (hb9.mono H5.out.size)).mono H1.out.size))
      clear hW2 hb9
      go_wp2
      refine bodyPost_ret (v := .bool true) (by simp [results, Tryz.results3, go_sem]) rfl ⟨rfl, H9.out⟩
    | false =>
      have hsl := (hsl rfl).fates
      by_cases hn60 : 60 < ns.length
      · have hni : (ns.length : Int) > 60 := by omega
        have hni2 : (60 : Int) < (ns.length : Int) := by omega
        clear hsl
        have hW2 := works_any w5 (HX.out.2.2.2.2.1.keep H5.out)
        go_wp2_with fail
        refine hW2.mono ?_
        rintro e w9 ⟨rfl, hb9⟩
        have H9 := Lib.hid (H1.out.trans ((H5.out.trans (hb9.mono H5.out.size)).mono H1.out.size))
        clear hW2 hb9
        go_wp2
        refine bodyPost_ret (v := .bool true) (by simp [results, Tryz.results3, go_sem]) rfl ⟨rfl, H9.out⟩
      · have hni : ¬ (ns.length : Int) > 60 := by omega
        have hni2 : ¬ (60 : Int) < (ns.length : Int) := by omega
        by_cases hl0 : l.length = 0
        · have hli : (l.length : Int) = 0 := by omega
          have hli2 : ((l.length : Int) == 0) = true := by simpa using hl0
          have hli3 : decide (l.length = 0) = true := by simpa using hl0
          have hli4 : decide ((l.length : Int) = 0) = true := by simpa using hl0
          clear hsl
          have hW2 := works_any w5 (HX.out.2.2.2.2.1.keep H5.out)
          go_wp2_with fail
          refine hW2.mono ?_
          rintro e w9 ⟨rfl, hb9⟩
          have H9 := Lib.hid (H1.out.trans ((H5.out.trans (hb9.mono H5.out.size)).mono H1.out.size))
          clear hW2 hb9
          go_wp2
          refine bodyPost_ret (v := .bool true) (by simp [results, Tryz.results3, go_sem]) rfl ⟨rfl, H9.out⟩
        · have hli : ¬ (l.length : Int) = 0 := by omega
          have hli2 : ((l.length : Int) == 0) = false := by simpa using hl0
          have hli3 : decide (l.length = 0) = false := by simpa using hl0
          have hli4 : decide ((l.length : Int) = 0) = false := by simpa using hl0
          have HL := Lib.hid (zeroL_small hsl)
          clear hsl
          go_upto_region 3 with (fail)
          have hbx := (H5.out.block _ (lt_of_cells HX.out.2.2.2.2.2)).trans HX.out.2.2.2.2.2
          unfold mailC at hbx
          obtain ⟨x0, x1, x2, x3, x4⟩ := mbox hbx
          have hMk := make_any id at_ m _ w5 (HX.out.1.below H5.out) (shortM_of HS.out) (HX.out.2.2.2.2.1.keep H5.out)
          unfold mailV mailC at hMk
          obtain ⟨x, hx⟩ : ∃ x, x = makeN id at_ m := ⟨_, rfl⟩
          have hxm : x.mail = m := by rw [hx]; rfl
          rw [← hx] at hMk
          have HXE := Lib.hid (And.intro hx hxm)
          clear hbx hx hxm
          go_wp2_with fail
          refine hMk.mono ?_
          rintro e w6 ⟨⟨rv, fv, jv, rfl, hown⟩, hb6⟩
          clear hMk x0 x1 x2 x3 x4
          obtain ⟨p1, c1, rfl⟩ := own_shape hown.rc
          obtain ⟨p2, c2, rfl⟩ := own_shape hown.fa
          obtain ⟨p3, c3, rfl⟩ := own_shape hown.jo
          have HO := Lib.hid (And.intro hown hb6)
          clear hown hb6
          unfold entV entC
          go_upto_region 4 with (fail)
          have hb7 : Below w6.heap.size w6 (w6.alloc (.cells (entC x (.slice p1 x.mail.rcpts.length c1) (.slice p2 x.fates.length c2) (.slice p3 x.jobs.length c3)).toArray 32)) := (Below.refl _ _).alloc (Nat.le_refl _) _
          have hx7 : (w6.alloc (.cells (entC x (.slice p1 x.mail.rcpts.length c1) (.slice p2 x.fates.length c2) (.slice p3 x.jobs.length c3)).toArray 32)).heap[w6.heap.size]? = some (.cells (entC x (.slice p1 x.mail.rcpts.length c1) (.slice p2 x.fates.length c2) (.slice p3 x.jobs.length c3)).toArray 32 (0, 0)) := ha_eq rfl
          unfold entC at hb7 hx7
          generalize hW7 : World.alloc w6 _ = w7 at hb7 hx7 ⊢
          obtain ⟨bx, hbx⟩ : ∃ bx, bx = w6.heap.size := ⟨_, rfl⟩
          rw [← hbx] at hx7 ⊢
          have H6 := H5.out.trans (HO.out.2.mono H5.out.size)
          have H7 := Lib.hid (H6.trans (hb7.mono H6.size))
          have hge7 : w.heap.size ≤ bx := by rw [hbx]; exact Nat.le_trans H1.out.size H6.size
          have hat7 : EntAt w7 x (.slice p1 x.mail.rcpts.length c1) (.slice p2 x.fates.length c2) (.slice p3 x.jobs.length c3) := HO.out.1.at.below hb7
          have HE7 := Lib.hid (And.intro hx7 (And.intro hat7 hge7))
          clear hW7 hb7 H6 hge7
          have hsh : ShortE x := by
            have hs := shortM_of HS.out
            rw [HXE.out.1]
            exact short_make hs
          have hMy := may_any x _ _ _ w7 hat7 hsh (HX.out.2.2.2.2.1.keep H7.out)
          unfold entV entC at hMy
          obtain ⟨x0, x1, x2, x3, x4, x5, x6, x7, x8, x9⟩ := eboxAll hx7
          clear hx7 hat7 hsh hbx
          go_wp2_with fail
          refine hMy.mono ?_
          rintro e w8 ⟨rfl, hb8⟩
          have H8 := Lib.hid (H7.out.trans (hb8.mono H7.out.size))
          have HB8 := Lib.hid hb8
          clear hMy hb8 x0 x1 x2 x3 x4 x5 x6 x7 x8 x9
          cases hmy : mayN x with
          | false =>
            rw [HXE.out.1] at hmy
            have HN := Lib.hid (good_not hmy)
            clear hmy
            have hbx := (H8.out.block _ (lt_of_cells HX.out.2.2.2.2.2)).trans HX.out.2.2.2.2.2
            unfold mailC at hbx
            obtain ⟨x0, x1, x2, x3, x4⟩ := mbox hbx
            have hMl := mail_any m _ 4 4096 w8 (HX.out.1.below H8.out) (shortM_of HS.out) (HX.out.2.2.2.2.1.keep H8.out)
            unfold mailV mailC at hMl
            clear hbx
            obtain ⟨Q, hQ⟩ : ∃ Q, Q = mailB m 4 4096 := ⟨_, rfl⟩
            rw [← hQ] at HN hMl
            clear hQ
            go_wp2_with fail
            refine hMl.mono ?_
            rintro e w9 ⟨rfl, hb9⟩
            have H9 := Lib.hid (H1.out.trans ((H8.out.trans (hb9.mono H8.out.size)).mono H1.out.size))
            clear hMl hb9 x0 x1 x2 x3 x4
            by_cases hq : Q = 0
            · subst hq
              by_cases h1 : id < 1
              · go_wp2
                refine bodyPost_ret (v := .bool true) (by simp [results, Tryz.results3, go_sem]) rfl ⟨rfl, H9.out⟩
              · by_cases h2 : 1099511627776 < id
                · go_wp2
                  refine bodyPost_ret (v := .bool true) (by simp [results, Tryz.results3, go_sem]) rfl ⟨rfl, H9.out⟩
                · by_cases h3 : at_ < 0
                  · go_wp2
                    refine bodyPost_ret (v := .bool true) (by simp [results, Tryz.results3, go_sem]) rfl ⟨rfl, H9.out⟩
                  · have h4 : 1099511627776 < at_ := by have := HN.out; omega
                    go_wp2
                    refine bodyPost_ret (v := .bool true) (by simp [results, Tryz.results3, go_sem]) rfl ⟨rfl, H9.out⟩
            · have e1 : ((Q : Int) == 0) = false := by simpa using hq
              have e2 : decide ((Q : Int) = 0) = false := by simpa using hq
              have e3 : decide (Q = 0) = false := by simpa using hq
              have e5 : ¬ (Q : Int) = 0 := by omega
              go_wp2
              refine bodyPost_ret (v := .bool true) (by simp [results, Tryz.results3, go_sem]) rfl ⟨rfl, H9.out⟩
          | true =>
            have hfew : FewX x := few_may ((mayN_iff x).1 hmy) (by rw [HXE.out.2]; exact shortM_of HS.out)
            have hway : WayE w x bx (.slice p1 x.mail.rcpts.length c1) (.slice p2 x.fates.length c2) (.slice p3 x.jobs.length c3) w8 :=
              ⟨H1.out.trans (H8.out.mono H1.out.size), (HB8.out.block _ (lt_of_cells HE7.out.1)).trans HE7.out.1, HE7.out.2.1.below HB8.out, hfew, HE7.out.2.2⟩
            have HW := Lib.hid hway
            clear hmy hfew hway
            clear hsl
            go_wp2_with fail
            go_loopw [12, 13] (fun s12 s13 wr => ∃ (i k : Nat) (x : EntP) (sv fv jv : Value), s13 = .int .i64 (i : Int) ∧ s12 = .int .i64 (k : Int) ∧ i ≤ ns.length ∧ k ≤ 4 * i ∧ WayE w x bx sv fv jv wr) (fun _ s13 _ => ns.length - natI s13)
            case atStart => exact ⟨0, 0, x, _, _, _, rfl, rfl, Nat.zero_le _, Nat.zero_le _, HW.out⟩
            case round =>
              obtain ⟨i, k, x2, sv, fv, jv, rfl, rfl, hi, hk, hWy⟩ := hrel
              have HWy := Lib.hid hWy
              by_cases hlast : i < ns.length
              · have hli : (i : Int) < (ns.length : Int) := by omega
                have hwi : wrap64 ((i : Int) + 1) = (i : Int) + 1 := by unfold wrap64; omega
                clear hWy
                go_upto_region 10 with (fail)
                refine goodQ _ _ _ (by assumption) w x2 l ns i k bx sv fv jv p0 q0 c0 cq wr HWy.out HR.out.1 HR.out.2.1 HR.out.2.2 (by omega) HL.out.1 HL.out.2 hlast (by omega) (fun _ _ _ _ _ h => h) ?_
                rintro v10 v12 v14 v15 v16 v17 v18 v19 v20 v21 v22 v23 v24 v25 v86 v87 v88 v89 v90 v91 v92 v93 v94 v95 v96 v97 v98 v99 v100 v101 v102 v103 v104 v105 v106 v107 v108 v109 v110 v111 v112 v113 v114 v115 v116 v117 v118 v119 v120 v121 v122 v123 v124 v125 v126 v127 v128 v129 v130 v131 v132 v133 v134 v135 v136 v137 v138 v139 v140 v141 v142 v143 v144 v145 v146 v147 v148 v149 v150 v151 v152 v153 v154 v155 v156 v157 v158 v159 v160 v161 v162 v163 v164 v165 v166 v167 v168 v169 v170 v171 v172 v173 v174 v175 v176 v177 v178 v179 v180 v181 v182 v183 v184 v185 v186 v187 v188 v189 v190 v191 v192 v193 v194 v195 v196 v197 v198 v199 v200 v201 v202 v203 v204 v205 v206 v207 v208 v209 v210 v211 v212 v213 v214 v215 v216 v217 v218 v219 v220 v221 v222 v223 v224 v225 v226 v227 v228 v229 v230 v231 v232 v233 v234 v235 v236 v237 v238 v239 v240 v241 v242 v243 v244 v245 v246 v247 v248 v249 v250 v251 v252 v253 v254 v255 v256 v257 v258 v259 v260 v261 v262 v263 v264 v265 v266 v267 v268 v269 v270 v271 v272 v273 v274 v275 v276 v277 v278 v279 v280 v281 v282 v283 v284 v285 v286 v287 w12 ⟨k1, x3, s3, f3, j3, rfl, hk1, hw12⟩
                go_wp2
                go_roundw
                case rel => exact ⟨i + 1, k1, x3, s3, f3, j3, by simp, rfl, by omega, by omega, hw12⟩
                case measure => simp [natI]; omega
              · have hli : ¬ (i : Int) < (ns.length : Int) := by omega
                clear hWy
                go_upto_region 40 with (fail)
                refine goodE _ _ (by assumption) x2 bx sv fv jv wr HWy.out.box HWy.out.at_ HWy.out.few (HR.out.2.2.keep HWy.out.below) (fun _ _ _ _ _ h => h) ?_
                rintro v26 v27 v28 v29 v288 v289 v290 v291 v292 v293 v294 v295 v296 v297 v298 v299 v300 v301 v302 v303 v304 v305 v306 v307 v308 v309 v310 v311 v312 v313 v314 v315 v316 v317 v318 v319 v320 v321 v322 v323 v324 v325 v326 v327 v328 v329 v330 v331 w20 hb20
                have H20 := HWy.out.below.trans (hb20.mono HWy.out.below.size)
                refine bodyPost_ret (v := .bool true) (by simp [results, Tryz.results3, go_sem]) rfl ⟨rfl, H20⟩
  · have hki : (kk : Int) ≥ 9000 := by omega
    have hki3 : (9000 : Int) ≤ (kk : Int) := by omega
    have hki4 : ¬ (kk : Int) < 9000 := by omega
    clear hsm hk9
    have hW2 := works_any w3 (HX.out.2.2.2.2.1.keep H3.out)
    go_wp2_with fail
    refine hW2.mono ?_
    rintro e w9 ⟨rfl, hb9⟩
    have H9 := Lib.hid (H1.out.trans ((H3.out.trans (hb9.mono H3.out.size)).mono H1.out.size))
    clear hW2 hb9
    go_wp2
    refine bodyPost_ret (v := .bool true) (by simp [results, Tryz.results3, go_sem]) rfl ⟨rfl, H9.out⟩
end Go.Proofs.YtdlpdpelhkgnlaaGreatDoor
