/- EntryGood: its loop over the fates. -/
import Derived.Test.YtdlpdpelhkgnlaaGreatDoorEgda
namespace Go.Proofs.YtdlpdpelhkgnlaaGreatDoor
open Go Go.RowKit Go.Shelf Go.Sort
attribute [local go_sem] bneI

/-- The fate that is wanted, in its box, behind the first ones. -/
structure WantE (w : World) (ws : List Nat) (f : List FaP) (n : Nat) (v : FaP) (p b : Nat) (s23 : Value) (wr : World) : Prop where
  below : Below w.heap.size w wr
  box : wr.heap[b]? = some (.cells (faE (wantP ws f n v p).1).toArray 42 (0, 0))
  got : s23 = .int .i64 ((wantP ws f n v p).2 : Int)
theorem fabox {W : World} {b : Nat} {f : FaP} {t : TypeId} (h : W.heap[b]? = some (.cells (faE f).toArray t (0, 0))) : W.cell? ⟨b, 0, none⟩ = some (.int .u8 (f.1 : Int)) ∧ W.cell? ⟨b, 1, none⟩ = some (.string ⟨f.2.toArray⟩) := by
  unfold faE at h
  constructor <;> simp [World.cell?, h]
set_option linter.unusedSimpArgs false in
set_option maxRecDepth 1000000 in
set_option maxHeartbeats 16000000 in
theorem goodC {u0 u1 u2 u3 u4 u5 u6 u7 u8 u9 u10 u12 u13 u14 u17 u18 u20 u21 u22 u23 u24 u25 u26 u27 u28 u29 u30 u31 u32 u33 u34 u35 u36 u37 u38 u39 u40 u41 u42 u43 u44 u45 u46 u47 u48 u49 u50 u51 u52 u53 u54 u55 u56 u57 u58 u59 u60 u61 u62 u63 u64 u65 u66 u67 u68 u69 u70 u71 u72 u73 u74 u75 u76 u77 u78 u79 u80 u81 u82 u83 u84 u85 u86 u87 u88 u89 u90 u91 u92 u93 u94 u95 u96 u97 u98 u99 u100 u101 u102 u103 u104 u105 u106 u107 u108 u109 u110 u111 u112 u113 u114 u115 u116 u117 u118 u119 u120 u121 u122 u123 u124 u125 u126 u127 u128 u129 u130 u131 u132 u133 u134 u135 u136 u137 u138 u139 u140 u141 u142 u143 u144 u145 u146 u147 u148 u149 u150 u151 u152 u153 u154 u155 u156 u157 u158 u159 u160 u161 u162 u163 u164 u165 u166 u167 u168 u169 u170 u171 u172 u173 u174 u175 u176 u177 u178 u179 u180 u181 u182 u183 u184 u185 u186 u187 u188 u189 u190 u191 u192 u193 u194 u195 u196 u197 u198 u199 u200 u201 u202 u203 u204 u205 u206 u207 u208 u209 u210 u211 u212 u213 u214 u215 u216 u217 u218 u219 u220 u221 u222 u223 u224 u225 u226 u227 u228 u229 u230 u231 u232 u233 u234 u235 u236 u237 u238 u239 u240 u241 u242 u243 u244 u245 u246 u247 u248 u249 u250 u251 u252 u253 u254 u255 u256 u257 u258 u259 u260 u261 u262 u263 u264 u265 u266 u267 u268 u269 u270 u271 u272 u273 u274 u275 u276 u277 u278 u279 u280 u281 u282 u283 u284 u285 u286 u287 u288 u289 u290 u291 u292 u293 u294 u295 u296 u297 u298 u299 u300 u301 u302 u303 u304 u305 u306 u307 u308 u309 u310 u311 u312 u313 u314 u315 u316 u317 u318 u319 u320 u321 u322 u323 u324 u325 u326 u327 u328 u329 u330 u331 : Value} {ds : List Deferred} (K' : Act → World → Prop) (Q' : Exit → Act → World → Prop) (K0 : Act → World → Prop) (hrest : ∀ a w, (cB (codeC Tryz.f3)).wp Tryz.prog (Exit.then K' Q') a w → K0 a w) (x y : EntP) (ws : List Nat) (f : List FaP) (wp fp : Option Addr) (c d : Nat) (bx by_ : Nat) (sv fv jv sv2 fv2 jv2 : Value) (W : World)
    (hT : TwoE W x y bx by_ sv fv jv sv2 fv2 jv2) (hF : FewX x) (hwl : ws.length ≤ 4) (hfl : f.length = ws.length) (hl : y.fates.length = x.fates.length)
    (hws : RowK 1 naE W (.slice wp ws.length c) ws) (hfs : RowK 2 faE W (.slice fp f.length d) f)
    (hy : ∀ n v, x.fates[n]? = some v → y.fates[n]? = some (wantP ws f n v f.length).1) (hz : ∀ n v p, x.fates[n]? = some v → (wantP ws f n v p).2 = 1 → v.1 = 0)
    (hK : ∀ (v10 v21 v22 v23 v24 v145 v146 v147 v148 v149 v150 v151 v152 v153 v154 v155 v156 v157 v158 v159 v160 v161 v162 v163 v164 v165 v166 v167 v168 v169 v170 v171 v172 v173 v174 v175 v176 v177 v178 v179 v180 v181 v182 v183 v184 v185 v186 v187 v188 v189 v190 v191 v192 : Value) (W' : World), Below W.heap.size W W' → K' ⟨(u0 :: u1 :: u2 :: u3 :: u4 :: u5 :: u6 :: u7 :: u8 :: u9 :: v10 :: .pointer (some ⟨bx, 0, none⟩) :: u12 :: u13 :: u14 :: .slice wp ws.length c :: .slice fp f.length d :: u17 :: u18 :: .pointer (some ⟨by_, 0, none⟩) :: u20 :: v21 :: v22 :: v23 :: v24 :: u25 :: u26 :: u27 :: u28 :: u29 :: u30 :: u31 :: u32 :: u33 :: u34 :: u35 :: u36 :: u37 :: u38 :: u39 :: u40 :: u41 :: u42 :: u43 :: u44 :: u45 :: u46 :: u47 :: u48 :: u49 :: u50 :: u51 :: u52 :: u53 :: u54 :: u55 :: u56 :: u57 :: u58 :: u59 :: u60 :: u61 :: u62 :: u63 :: u64 :: u65 :: u66 :: u67 :: u68 :: u69 :: u70 :: u71 :: u72 :: u73 :: u74 :: u75 :: u76 :: u77 :: u78 :: u79 :: u80 :: u81 :: u82 :: u83 :: u84 :: u85 :: u86 :: u87 :: u88 :: u89 :: u90 :: u91 :: u92 :: u93 :: u94 :: u95 :: u96 :: u97 :: u98 :: u99 :: u100 :: u101 :: u102 :: u103 :: u104 :: u105 :: u106 :: u107 :: u108 :: u109 :: u110 :: u111 :: u112 :: u113 :: u114 :: u115 :: u116 :: u117 :: u118 :: u119 :: u120 :: u121 :: u122 :: u123 :: u124 :: u125 :: u126 :: u127 :: u128 :: u129 :: u130 :: u131 :: u132 :: u133 :: u134 :: u135 :: u136 :: u137 :: u138 :: u139 :: u140 :: u141 :: u142 :: u143 :: u144 :: v145 :: v146 :: v147 :: v148 :: v149 :: v150 :: v151 :: v152 :: v153 :: v154 :: v155 :: v156 :: v157 :: v158 :: v159 :: v160 :: v161 :: v162 :: v163 :: v164 :: v165 :: v166 :: v167 :: v168 :: v169 :: v170 :: v171 :: v172 :: v173 :: v174 :: v175 :: v176 :: v177 :: v178 :: v179 :: v180 :: v181 :: v182 :: v183 :: v184 :: v185 :: v186 :: v187 :: v188 :: v189 :: v190 :: v191 :: v192 :: u193 :: u194 :: u195 :: u196 :: u197 :: u198 :: u199 :: u200 :: u201 :: u202 :: u203 :: u204 :: u205 :: u206 :: u207 :: u208 :: u209 :: u210 :: u211 :: u212 :: u213 :: u214 :: u215 :: u216 :: u217 :: u218 :: u219 :: u220 :: u221 :: u222 :: u223 :: u224 :: u225 :: u226 :: u227 :: u228 :: u229 :: u230 :: u231 :: u232 :: u233 :: u234 :: u235 :: u236 :: u237 :: u238 :: u239 :: u240 :: u241 :: u242 :: u243 :: u244 :: u245 :: u246 :: u247 :: u248 :: u249 :: u250 :: u251 :: u252 :: u253 :: u254 :: u255 :: u256 :: u257 :: u258 :: u259 :: u260 :: u261 :: u262 :: u263 :: u264 :: u265 :: u266 :: u267 :: u268 :: u269 :: u270 :: u271 :: u272 :: u273 :: u274 :: u275 :: u276 :: u277 :: u278 :: u279 :: u280 :: u281 :: u282 :: u283 :: u284 :: u285 :: u286 :: u287 :: u288 :: u289 :: u290 :: u291 :: u292 :: u293 :: u294 :: u295 :: u296 :: u297 :: u298 :: u299 :: u300 :: u301 :: u302 :: u303 :: u304 :: u305 :: u306 :: u307 :: u308 :: u309 :: u310 :: u311 :: u312 :: u313 :: u314 :: u315 :: u316 :: u317 :: u318 :: u319 :: u320 :: u321 :: u322 :: u323 :: u324 :: u325 :: u326 :: u327 :: u328 :: u329 :: u330 :: u331 :: []).toArray, ds⟩ W') : (cA (codeC Tryz.f3)).wp Tryz.prog (Exit.then K0 (Exit.then K' Q')) ⟨(u0 :: u1 :: u2 :: u3 :: u4 :: u5 :: u6 :: u7 :: u8 :: u9 :: u10 :: .pointer (some ⟨bx, 0, none⟩) :: u12 :: u13 :: u14 :: .slice wp ws.length c :: .slice fp f.length d :: u17 :: u18 :: .pointer (some ⟨by_, 0, none⟩) :: u20 :: u21 :: u22 :: u23 :: u24 :: u25 :: u26 :: u27 :: u28 :: u29 :: u30 :: u31 :: u32 :: u33 :: u34 :: u35 :: u36 :: u37 :: u38 :: u39 :: u40 :: u41 :: u42 :: u43 :: u44 :: u45 :: u46 :: u47 :: u48 :: u49 :: u50 :: u51 :: u52 :: u53 :: u54 :: u55 :: u56 :: u57 :: u58 :: u59 :: u60 :: u61 :: u62 :: u63 :: u64 :: u65 :: u66 :: u67 :: u68 :: u69 :: u70 :: u71 :: u72 :: u73 :: u74 :: u75 :: u76 :: u77 :: u78 :: u79 :: u80 :: u81 :: u82 :: u83 :: u84 :: u85 :: u86 :: u87 :: u88 :: u89 :: u90 :: u91 :: u92 :: u93 :: u94 :: u95 :: u96 :: u97 :: u98 :: u99 :: u100 :: u101 :: u102 :: u103 :: u104 :: u105 :: u106 :: u107 :: u108 :: u109 :: u110 :: u111 :: u112 :: u113 :: u114 :: u115 :: u116 :: u117 :: u118 :: u119 :: u120 :: u121 :: u122 :: u123 :: u124 :: u125 :: u126 :: u127 :: u128 :: u129 :: u130 :: u131 :: u132 :: u133 :: u134 :: u135 :: u136 :: u137 :: u138 :: u139 :: u140 :: u141 :: u142 :: u143 :: u144 :: u145 :: u146 :: u147 :: u148 :: u149 :: u150 :: u151 :: u152 :: u153 :: u154 :: u155 :: u156 :: u157 :: u158 :: u159 :: u160 :: u161 :: u162 :: u163 :: u164 :: u165 :: u166 :: u167 :: u168 :: u169 :: u170 :: u171 :: u172 :: u173 :: u174 :: u175 :: u176 :: u177 :: u178 :: u179 :: u180 :: u181 :: u182 :: u183 :: u184 :: u185 :: u186 :: u187 :: u188 :: u189 :: u190 :: u191 :: u192 :: u193 :: u194 :: u195 :: u196 :: u197 :: u198 :: u199 :: u200 :: u201 :: u202 :: u203 :: u204 :: u205 :: u206 :: u207 :: u208 :: u209 :: u210 :: u211 :: u212 :: u213 :: u214 :: u215 :: u216 :: u217 :: u218 :: u219 :: u220 :: u221 :: u222 :: u223 :: u224 :: u225 :: u226 :: u227 :: u228 :: u229 :: u230 :: u231 :: u232 :: u233 :: u234 :: u235 :: u236 :: u237 :: u238 :: u239 :: u240 :: u241 :: u242 :: u243 :: u244 :: u245 :: u246 :: u247 :: u248 :: u249 :: u250 :: u251 :: u252 :: u253 :: u254 :: u255 :: u256 :: u257 :: u258 :: u259 :: u260 :: u261 :: u262 :: u263 :: u264 :: u265 :: u266 :: u267 :: u268 :: u269 :: u270 :: u271 :: u272 :: u273 :: u274 :: u275 :: u276 :: u277 :: u278 :: u279 :: u280 :: u281 :: u282 :: u283 :: u284 :: u285 :: u286 :: u287 :: u288 :: u289 :: u290 :: u291 :: u292 :: u293 :: u294 :: u295 :: u296 :: u297 :: u298 :: u299 :: u300 :: u301 :: u302 :: u303 :: u304 :: u305 :: u306 :: u307 :: u308 :: u309 :: u310 :: u311 :: u312 :: u313 :: u314 :: u315 :: u316 :: u317 :: u318 :: u319 :: u320 :: u321 :: u322 :: u323 :: u324 :: u325 :: u326 :: u327 :: u328 :: u329 :: u330 :: u331 :: []).toArray, ds⟩ W := by
  obtain ⟨p2, c2, rfl, -⟩ := hT.x.fa.sh
  obtain ⟨q2, d2, rfl, -⟩ := hT.y.fa.sh
  have hF4 := hF.fates
  have HX := Lib.hid (And.intro hT (And.intro hF (And.intro hfl (And.intro hl (And.intro hws (And.intro hfs (And.intro hy hz)))))))
  have HK := Lib.hid hK
  clear hT hF hfl hl hws hfs hy hz hK
  conv => arg 2; whnf
  go_wp2_with fail
  conv => arg 2; whnf
  go_wp2_with fail
  go_loopw [21] (fun s21 wr => ∃ n : Nat, s21 = .int .i64 (n : Int) ∧ n ≤ x.fates.length ∧ Below W.heap.size W wr) (fun s21 _ => x.fates.length - natI s21)
  case atStart => exact ⟨0, rfl, Nat.zero_le _, Below.refl _ _⟩
  case round =>
    obtain ⟨n, rfl, hn, hB⟩ := hrel
    have hT := HX.out.1.keep hB
    have HB := Lib.hid hB
    have hbx := hT.bx
    unfold entC at hbx
    obtain ⟨x0, x1, x2, x3, x4, x5, x6, x7, x8, x9⟩ := eboxAll hbx
    clear hB hbx x0 x1 x2 x3 x4 x5 x6 x7 x9
    by_cases hlast : n < x.fates.length
    · have hli : (n : Int) < (x.fates.length : Int) := by omega
      obtain ⟨b1, o1, rfl, hc1⟩ := hT.x.fa.at n hlast
      obtain ⟨v, hv⟩ : ∃ v, x.fates[n]? = some v := ⟨_, List.getElem?_eq_getElem hlast⟩
      have hve : x.fates[n] = v := by rw [List.getElem?_eq_getElem hlast] at hv; injection hv
      have hc1' := hc1 n hlast
      rw [hve] at hc1'
      have z0 : wr.cell? ⟨b1, o1 + n * 2, none⟩ = some (.int .u8 (v.1 : Int)) := hc1' 0 _ rfl
      have z1 : wr.cell? ⟨b1, o1 + n * 2 + 1, none⟩ = some (.string ⟨v.2.toArray⟩) := hc1' 1 _ rfl
      have HV := Lib.hid hv
      clear hc1 hc1' hv hve hT
      go_upto_region 25 with (fail)
      have hW0 : WantE W ws f n v 0 wr.heap.size (.int .i64 0) (wr.alloc (.cells (faE v).toArray 42)) := ⟨HB.out.alloc (HB.out.size) _, ha_eq rfl, rfl⟩
      unfold faE at hW0
      generalize hW2 : World.alloc wr _ = w2 at hW0 ⊢
      obtain ⟨wb, hwb⟩ : ∃ wb, wb = wr.heap.size := ⟨_, rfl⟩
      rw [← hwb] at hW0 ⊢
      have hwbge : W.heap.size ≤ wb := by rw [hwb]; exact HB.out.size
      have HW0 := Lib.hid hW0
      clear hW2 hW0 hwb x8 z0 z1
      go_wp2_with fail
      go_loopw [23, 24] (fun s23 s24 wq => ∃ p : Nat, s24 = .int .i64 (p : Int) ∧ p ≤ ws.length ∧ WantE W ws f n v p wb s23 wq) (fun _ s24 _ => ws.length - natI s24)
      case atStart => exact ⟨0, rfl, Nat.zero_le _, HW0.out⟩
      case round =>
        obtain ⟨p, rfl, hp, hWa⟩ := hrel
        have hgot := hWa.got
        have HWa := Lib.hid hWa
        by_cases hpl : p < ws.length
        · have hpi : (p : Int) < (ws.length : Int) := by omega
          have hw1 : wrap64 ((p : Int) + 1) = (p : Int) + 1 := by unfold wrap64; omega
          obtain ⟨b3, o3, rfl, hc3⟩ := (HX.out.2.2.2.2.1.below hWa.below).at p hpl
          obtain ⟨i, hi⟩ : ∃ i, ws[p]? = some i := ⟨_, List.getElem?_eq_getElem hpl⟩
          have hie : ws[p] = i := by rw [List.getElem?_eq_getElem hpl] at hi; injection hi
          have hc3' := hc3 p hpl
          rw [hie] at hc3'
          have t0 : wr.cell? ⟨b3, o3 + p, none⟩ = some (.int .i64 (i : Int)) := by have := hc3' 0 _ rfl; simpa [natV] using this
          have hpf : p < f.length := by rw [HX.out.2.2.1]; exact hpl
          obtain ⟨g, hg⟩ : ∃ g, f[p]? = some g := ⟨_, List.getElem?_eq_getElem hpf⟩
          have hge : f[p] = g := by rw [List.getElem?_eq_getElem hpf] at hg; injection hg
          have hsu := want_succ (n := n) (v := v) hi hg
          clear hc3 hc3' hie
          by_cases hin : i = n
          · subst hin
            rw [if_pos rfl] at hsu
            have hpif : (p : Int) < (f.length : Int) := by omega
            obtain ⟨b4, o4, rfl, hc4⟩ := (HX.out.2.2.2.2.2.1.below hWa.below).at p hpf
            have hc4' := hc4 p hpf
            rw [hge] at hc4'
            have r0 : wr.cell? ⟨b4, o4 + p * 2, none⟩ = some (.int .u8 (g.1 : Int)) := hc4' 0 _ rfl
            have r1 : wr.cell? ⟨b4, o4 + p * 2 + 1, none⟩ = some (.string ⟨g.2.toArray⟩) := hc4' 1 _ rfl
            obtain ⟨w0, w1⟩ := fabox hWa.box
            have f0 := efroz hWa.box 0
            have f1 := efroz hWa.box 1
            have hnx : WantE W ws f i v (p + 1) wb (.int .i64 1) ((wr.setCell ⟨wb, 0, none⟩ (.int .u8 (g.1 : Int))).setCell ⟨wb, 1, none⟩ (.string ⟨g.2.toArray⟩)) := by
              refine ⟨(hWa.below.setCell hwbge _).setCell hwbge _, ?_, by rw [hsu]; rfl⟩
              have hb := hWa.box
              unfold faE at hb
              have h := heap_setE (off := 1) (v := .string ⟨g.2.toArray⟩) (heap_setE (off := 0) (v := .int .u8 (g.1 : Int)) hb)
              rw [hsu]
              exact h
            have HN := Lib.hid hnx
            clear hc4 hc4' hg hge hsu hWa hi hnx hgot
            go_wp2
            go_roundw
            case rel => exact ⟨p + 1, by simp, by omega, HN.out⟩
            case measure => simp [natI]; omega
          · rw [if_neg hin] at hsu
            have e1 : ((i : Int) == (n : Int)) = false := by simp; omega
            have e2 : decide ((i : Int) = (n : Int)) = false := by simp; omega
            have e3 : decide (i = n) = false := by simp; omega
            have hnx : WantE W ws f n v (p + 1) wb u23 wr := ⟨hWa.below, by rw [hsu]; exact hWa.box, by rw [hsu]; exact hWa.got⟩
            have HN := Lib.hid hnx
            clear hg hge hsu hWa hi hnx hgot hin
            go_wp2
            go_roundw
            case rel => exact ⟨p + 1, by simp, by omega, HN.out⟩
            case measure => simp [natI]; omega
        · have hpi : ¬ (p : Int) < (ws.length : Int) := by omega
          have hpe : p = f.length := by rw [HX.out.2.2.1]; omega
          have hw1 : wrap64 ((n : Int) + 1) = (n : Int) + 1 := by unfold wrap64; omega
          have hyv := HX.out.2.2.2.2.2.2.1 n v HV.out
          have hzv := HX.out.2.2.2.2.2.2.2 n v p HV.out
          have h01 := want_01 ws f n v p
          rw [← hpe] at hyv
          obtain ⟨hny, hye⟩ := List.getElem?_eq_some_iff.1 hyv
          have hny2 : (n : Int) < (y.fates.length : Int) := by omega
          have hT := HX.out.1.keep hWa.below
          obtain ⟨b5, o5, rfl, hc5⟩ := hT.y.fa.at n hny
          have hc5' := hc5 n hny
          rw [hye] at hc5'
          have hby := hT.by_
          have hbx := hT.bx
          unfold entC at hby hbx
          obtain ⟨-, -, -, -, -, -, -, -, y8, -⟩ := eboxAll hby
          obtain ⟨-, -, -, -, -, -, -, -, x8, -⟩ := eboxAll hbx
          obtain ⟨w0, w1⟩ := fabox hWa.box
          obtain ⟨W3, hW3⟩ : ∃ W3, W3 = (wantP ws f n v p).1 := ⟨_, rfl⟩
          rw [← hW3] at hc5' w0 w1
          have r0 : wr.cell? ⟨b5, o5 + n * 2, none⟩ = some (.int .u8 (W3.1 : Int)) := hc5' 0 _ rfl
          have r1 : wr.cell? ⟨b5, o5 + n * 2 + 1, none⟩ = some (.string ⟨W3.2.toArray⟩) := hc5' 1 _ rfl
          have HBq := Lib.hid hWa.below
          rcases h01 with h01 | h01
          · rw [h01] at hgot
            subst hgot
            clear hc5 hc5' hby hbx hT hye hyv hzv h01 hWa hpe hW3 hny
            go_upto_region 30 with (fail)
            go_quiet (fail)
            clear w0 w1 r0 r1 x8 y8
            go_wp2
            go_roundw
            case rel => exact ⟨n + 1, by simp, by omega, HBq.out.trans ((below_drewN (Below.refl _ _) _).mono HBq.out.size)⟩
            case measure => simp [natI]; omega
          · have hv0 := hzv h01
            rw [h01] at hgot
            subst hgot
            obtain ⟨b1, o1, e1, hc1⟩ := hT.x.fa.at n hlast
            have hve : x.fates[n] = v := by have hv := HV.out; rw [List.getElem?_eq_getElem hlast] at hv; injection hv
            have hc1' := hc1 n hlast
            rw [hve] at hc1'
            have z0 : wr.cell? ⟨b1, o1 + n * 2, none⟩ = some (.int .u8 0) := by have := hc1' 0 _ rfl; rw [hv0] at this; exact this
            cases e1
            clear hc1 hc1' hve hv0
            clear hc5 hc5' hby hbx hT hye hyv hzv h01 hWa hpe hW3 hny
            go_upto_region 30 with (fail)
            go_quiet (fail)
            clear w0 w1 r0 r1 x8 y8 z0
            go_wp2
            go_roundw
            case rel => exact ⟨n + 1, by simp, by omega, HBq.out.trans ((below_drewN (Below.refl _ _) _).mono HBq.out.size)⟩
            case measure => simp [natI]; omega
    · have hli : ¬ (n : Int) < (x.fates.length : Int) := by omega
      clear hT
      go_wp2
      exact HK.out _ _ _ _ _ _ _ _ _ _ _ _ _ _ _ _ _ _ _ _ _ _ _ _ _ _ _ _ _ _ _ _ _ _ _ _ _ _ _ _ _ _ _ _ _ _ _ _ _ _ _ _ _ _ HB.out
end Go.Proofs.YtdlpdpelhkgnlaaGreatDoor
