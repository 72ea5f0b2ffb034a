/- EntryGood: who waits of a job: its drawn region. -/
import Derived.Test.YtdlpdpelhkgnlaaGreatDoorEgda
import Derived.Deep.RegionHeld3
namespace Go.Proofs.YtdlpdpelhkgnlaaGreatDoor
open Go Go.RowKit Go.Shelf Go.Sort
attribute [local go_sem] bneI

set_option linter.unusedSimpArgs false in
set_option maxRecDepth 1000000 in
set_option maxHeartbeats 16000000 in
theorem goodF {u0 u1 u2 u3 u4 u5 u6 u7 u8 u9 u10 u12 u13 u15 u16 u17 u18 u19 u20 u21 u22 u23 u24 u25 u26 u27 u28 u29 u30 u31 u32 u33 u34 u35 u36 u37 u38 u39 u40 u41 u42 u43 u44 u45 u46 u47 u48 u49 u50 u51 u52 u53 u54 u55 u56 u57 u58 u59 u60 u61 u62 u63 u64 u65 u66 u67 u68 u69 u70 u71 u72 u73 u74 u75 u76 u77 u78 u79 u80 u81 u82 u83 u84 u85 u86 u87 u88 u89 u90 u91 u92 u93 u94 u95 u96 u97 u98 u99 u100 u101 u102 u103 u104 u105 u106 u107 u108 u109 u110 u111 u112 u113 u114 u115 u116 u117 u118 u119 u120 u121 u122 u123 u124 u125 u126 u127 u128 u129 u130 u131 u132 u133 u134 u135 u136 u137 u138 u139 u140 u141 u142 u143 u144 u145 u146 u147 u148 u149 u150 u151 u152 u153 u154 u155 u156 u157 u158 u159 u160 u161 u162 u163 u164 u165 u166 u167 u168 u169 u170 u171 u172 u173 u174 u175 u176 u177 u178 u179 u180 u181 u182 u183 u184 u185 u186 u187 u188 u189 u190 u191 u192 u193 u194 u195 u196 u197 u198 u199 u200 u201 u202 u203 u204 u205 u206 u207 u208 u209 u210 u211 u212 u213 u214 u215 u216 u217 u218 u219 u220 u221 u222 u223 u224 u225 u226 u227 u228 u229 u230 u231 u232 u233 u234 u235 u236 u237 u238 u239 u240 u241 u242 u243 u244 u245 u246 u247 u248 u249 u250 u251 u252 u253 u254 u255 u256 u257 u258 u259 u260 u261 u262 u263 u264 u265 u266 u267 u268 u269 u270 u271 u272 u273 u274 u275 u276 u277 u278 u279 u280 u281 u282 u283 u284 u285 u286 u287 u288 u289 u290 u291 u292 u293 u294 u295 u296 u297 u298 u299 u300 u301 u302 u303 u304 u305 u306 u307 u308 u309 u310 u311 u312 u313 u314 u315 u316 u317 u318 u319 u320 u321 u322 u323 u324 u325 u326 u327 u328 u329 u330 u331 : Value} {ds : List Deferred} (K' : Act → World → Prop) (Q' : Exit → Act → World → Prop) (x : EntP) (k : Nat) (j : JoP) (bx : Nat) (sv fv jv : Value) (W : World)
    (hb : W.heap[bx]? = some (.cells (entC x sv fv jv).toArray 32 (0, 0))) (hx : EntAt W x sv fv jv) (hF : FewX x) (hj : x.jobs[k]? = some j) (hE : Env W) (hP : ∀ (c : List PanicEntry) (a : Act) (d : Tmp) (v : Value) (w : World), Q' (.panic c) (a.put (some d) v) w → Q' (.panic c) a w)
    (hK : ∀ (v15 v97 v98 v99 v100 v101 v102 v103 v104 : Value) (W' : World), ((∃ wp c, v15 = .slice wp (waitsM x j.dom).length c ∧ RowK 1 naE W' v15 (waitsM x j.dom)) ∧ Below W.heap.size W W') → K' ⟨(u0 :: u1 :: u2 :: u3 :: u4 :: u5 :: u6 :: u7 :: u8 :: u9 :: u10 :: .pointer (some ⟨bx, 0, none⟩) :: u12 :: u13 :: .int .i64 (k : Int) :: v15 :: u16 :: u17 :: u18 :: u19 :: u20 :: u21 :: u22 :: u23 :: u24 :: u25 :: u26 :: u27 :: u28 :: u29 :: u30 :: u31 :: u32 :: u33 :: u34 :: u35 :: u36 :: u37 :: u38 :: u39 :: u40 :: u41 :: u42 :: u43 :: u44 :: u45 :: u46 :: u47 :: u48 :: u49 :: u50 :: u51 :: u52 :: u53 :: u54 :: u55 :: u56 :: u57 :: u58 :: u59 :: u60 :: u61 :: u62 :: u63 :: u64 :: u65 :: u66 :: u67 :: u68 :: u69 :: u70 :: u71 :: u72 :: u73 :: u74 :: u75 :: u76 :: u77 :: u78 :: u79 :: u80 :: u81 :: u82 :: u83 :: u84 :: u85 :: u86 :: u87 :: u88 :: u89 :: u90 :: u91 :: u92 :: u93 :: u94 :: u95 :: u96 :: v97 :: v98 :: v99 :: v100 :: v101 :: v102 :: v103 :: v104 :: u105 :: u106 :: u107 :: u108 :: u109 :: u110 :: u111 :: u112 :: u113 :: u114 :: u115 :: u116 :: u117 :: u118 :: u119 :: u120 :: u121 :: u122 :: u123 :: u124 :: u125 :: u126 :: u127 :: u128 :: u129 :: u130 :: u131 :: u132 :: u133 :: u134 :: u135 :: u136 :: u137 :: u138 :: u139 :: u140 :: u141 :: u142 :: u143 :: u144 :: u145 :: u146 :: u147 :: u148 :: u149 :: u150 :: u151 :: u152 :: u153 :: u154 :: u155 :: u156 :: u157 :: u158 :: u159 :: u160 :: u161 :: u162 :: u163 :: u164 :: u165 :: u166 :: u167 :: u168 :: u169 :: u170 :: u171 :: u172 :: u173 :: u174 :: u175 :: u176 :: u177 :: u178 :: u179 :: u180 :: u181 :: u182 :: u183 :: u184 :: u185 :: u186 :: u187 :: u188 :: u189 :: u190 :: u191 :: u192 :: u193 :: u194 :: u195 :: u196 :: u197 :: u198 :: u199 :: u200 :: u201 :: u202 :: u203 :: u204 :: u205 :: u206 :: u207 :: u208 :: u209 :: u210 :: u211 :: u212 :: u213 :: u214 :: u215 :: u216 :: u217 :: u218 :: u219 :: u220 :: u221 :: u222 :: u223 :: u224 :: u225 :: u226 :: u227 :: u228 :: u229 :: u230 :: u231 :: u232 :: u233 :: u234 :: u235 :: u236 :: u237 :: u238 :: u239 :: u240 :: u241 :: u242 :: u243 :: u244 :: u245 :: u246 :: u247 :: u248 :: u249 :: u250 :: u251 :: u252 :: u253 :: u254 :: u255 :: u256 :: u257 :: u258 :: u259 :: u260 :: u261 :: u262 :: u263 :: u264 :: u265 :: u266 :: u267 :: u268 :: u269 :: u270 :: u271 :: u272 :: u273 :: u274 :: u275 :: u276 :: u277 :: u278 :: u279 :: u280 :: u281 :: u282 :: u283 :: u284 :: u285 :: u286 :: u287 :: u288 :: u289 :: u290 :: u291 :: u292 :: u293 :: u294 :: u295 :: u296 :: u297 :: u298 :: u299 :: u300 :: u301 :: u302 :: u303 :: u304 :: u305 :: u306 :: u307 :: u308 :: u309 :: u310 :: u311 :: u312 :: u313 :: u314 :: u315 :: u316 :: u317 :: u318 :: u319 :: u320 :: u321 :: u322 :: u323 :: u324 :: u325 :: u326 :: u327 :: u328 :: u329 :: u330 :: u331 :: []).toArray, ds⟩ W') : (codeF Tryz.f3).wp Tryz.prog (Exit.then K' Q') ⟨(u0 :: u1 :: u2 :: u3 :: u4 :: u5 :: u6 :: u7 :: u8 :: u9 :: u10 :: .pointer (some ⟨bx, 0, none⟩) :: u12 :: u13 :: .int .i64 (k : Int) :: u15 :: u16 :: u17 :: u18 :: u19 :: u20 :: u21 :: u22 :: u23 :: u24 :: u25 :: u26 :: u27 :: u28 :: u29 :: u30 :: u31 :: u32 :: u33 :: u34 :: u35 :: u36 :: u37 :: u38 :: u39 :: u40 :: u41 :: u42 :: u43 :: u44 :: u45 :: u46 :: u47 :: u48 :: u49 :: u50 :: u51 :: u52 :: u53 :: u54 :: u55 :: u56 :: u57 :: u58 :: u59 :: u60 :: u61 :: u62 :: u63 :: u64 :: u65 :: u66 :: u67 :: u68 :: u69 :: u70 :: u71 :: u72 :: u73 :: u74 :: u75 :: u76 :: u77 :: u78 :: u79 :: u80 :: u81 :: u82 :: u83 :: u84 :: u85 :: u86 :: u87 :: u88 :: u89 :: u90 :: u91 :: u92 :: u93 :: u94 :: u95 :: u96 :: u97 :: u98 :: u99 :: u100 :: u101 :: u102 :: u103 :: u104 :: u105 :: u106 :: u107 :: u108 :: u109 :: u110 :: u111 :: u112 :: u113 :: u114 :: u115 :: u116 :: u117 :: u118 :: u119 :: u120 :: u121 :: u122 :: u123 :: u124 :: u125 :: u126 :: u127 :: u128 :: u129 :: u130 :: u131 :: u132 :: u133 :: u134 :: u135 :: u136 :: u137 :: u138 :: u139 :: u140 :: u141 :: u142 :: u143 :: u144 :: u145 :: u146 :: u147 :: u148 :: u149 :: u150 :: u151 :: u152 :: u153 :: u154 :: u155 :: u156 :: u157 :: u158 :: u159 :: u160 :: u161 :: u162 :: u163 :: u164 :: u165 :: u166 :: u167 :: u168 :: u169 :: u170 :: u171 :: u172 :: u173 :: u174 :: u175 :: u176 :: u177 :: u178 :: u179 :: u180 :: u181 :: u182 :: u183 :: u184 :: u185 :: u186 :: u187 :: u188 :: u189 :: u190 :: u191 :: u192 :: u193 :: u194 :: u195 :: u196 :: u197 :: u198 :: u199 :: u200 :: u201 :: u202 :: u203 :: u204 :: u205 :: u206 :: u207 :: u208 :: u209 :: u210 :: u211 :: u212 :: u213 :: u214 :: u215 :: u216 :: u217 :: u218 :: u219 :: u220 :: u221 :: u222 :: u223 :: u224 :: u225 :: u226 :: u227 :: u228 :: u229 :: u230 :: u231 :: u232 :: u233 :: u234 :: u235 :: u236 :: u237 :: u238 :: u239 :: u240 :: u241 :: u242 :: u243 :: u244 :: u245 :: u246 :: u247 :: u248 :: u249 :: u250 :: u251 :: u252 :: u253 :: u254 :: u255 :: u256 :: u257 :: u258 :: u259 :: u260 :: u261 :: u262 :: u263 :: u264 :: u265 :: u266 :: u267 :: u268 :: u269 :: u270 :: u271 :: u272 :: u273 :: u274 :: u275 :: u276 :: u277 :: u278 :: u279 :: u280 :: u281 :: u282 :: u283 :: u284 :: u285 :: u286 :: u287 :: u288 :: u289 :: u290 :: u291 :: u292 :: u293 :: u294 :: u295 :: u296 :: u297 :: u298 :: u299 :: u300 :: u301 :: u302 :: u303 :: u304 :: u305 :: u306 :: u307 :: u308 :: u309 :: u310 :: u311 :: u312 :: u313 :: u314 :: u315 :: u316 :: u317 :: u318 :: u319 :: u320 :: u321 :: u322 :: u323 :: u324 :: u325 :: u326 :: u327 :: u328 :: u329 :: u330 :: u331 :: []).toArray, ds⟩ W := by
  obtain ⟨p1, c1, rfl, -⟩ := hx.rc.sh
  obtain ⟨p2, c2, rfl, -⟩ := hx.fa.sh
  obtain ⟨p3, c3, rfl, -⟩ := hx.jo.sh
  obtain ⟨hk, hji⟩ := List.getElem?_eq_some_iff.1 hj
  have hki : (k : Int) < (x.jobs.length : Int) := by omega
  have hBD := below_drew W
  have hx1 := hx.below hBD
  have hbD := (hBD.block _ (lt_of_cells hb)).trans hb
  have hWt := waits_any x j.dom _ _ _ W.drew hx1 hF.short (hE.keep hBD)
  obtain ⟨b1, o1, rfl, hc1⟩ := hx1.jo.at k hk
  have hc1' := hc1 k hk
  rw [hji] at hc1'
  unfold entC at hbD
  unfold entV entC at hWt
  obtain ⟨x0, x1, x2, x3, x4, x5, x6, x7, x8, x9⟩ := eboxAll hbD
  have z0 : W.drew.cell? ⟨b1, o1 + k * 3, none⟩ = some (.string ⟨j.dom.toArray⟩) := hc1' 0 _ rfl
  have HK := Lib.hid hK
  have HP := Lib.hid hP
  clear hb hx hF hj hE hK hP hBD hx1 hbD hc1 hc1' hji
  have hSk : ∀ W', Below W.drew.heap.size W.drew W' → W'.cell? ⟨bx, 0, none⟩ = some (.int .i64 x.id) ∧ W'.cell? ⟨bx, 1, none⟩ = some (.int .i64 x.at_) ∧ W'.cell? ⟨bx, 2, none⟩ = some (.string ⟨x.mail.sender.toArray⟩) ∧ W'.cell? ⟨bx, 3, none⟩ = some (.slice p1 x.mail.rcpts.length c1) ∧ W'.cell? ⟨bx, 4, none⟩ = some (.bool x.mail.req) ∧ W'.cell? ⟨bx, 5, none⟩ = some (.string ⟨x.mail.envid.toArray⟩) ∧ W'.cell? ⟨bx, 6, none⟩ = some (.string ⟨x.mail.text.toArray⟩) ∧ W'.cell? ⟨bx, 7, none⟩ = some (.bool x.plain) ∧ W'.cell? ⟨bx, 8, none⟩ = some (.slice p2 x.fates.length c2) ∧ W'.cell? ⟨bx, 9, none⟩ = some (.slice (some ⟨b1, o1, none⟩) x.jobs.length c3) ∧ W'.cell? ⟨b1, o1 + k * 3, none⟩ = some (.string ⟨j.dom.toArray⟩) := fun W' hB => by
    have hh := fun (a : Addr) (u : Value) (h : W.drew.cell? a = some u) => (hB.cell (p := a) (cell_lt h)).trans h
    exact ⟨hh _ _ x0, hh _ _ x1, hh _ _ x2, hh _ _ x3, hh _ _ x4, hh _ _ x5, hh _ _ x6, hh _ _ x7, hh _ _ x8, hh _ _ x9, hh _ _ z0⟩
  have hS0 := hSk W.drew (Below.refl _ _)
  conv => arg 2; whnf
  refine wp_region_held_drew (S := (fun W => W.cell? ⟨bx, 0, none⟩ = some (.int .i64 x.id) ∧ W.cell? ⟨bx, 1, none⟩ = some (.int .i64 x.at_) ∧ W.cell? ⟨bx, 2, none⟩ = some (.string ⟨x.mail.sender.toArray⟩) ∧ W.cell? ⟨bx, 3, none⟩ = some (.slice p1 x.mail.rcpts.length c1) ∧ W.cell? ⟨bx, 4, none⟩ = some (.bool x.mail.req) ∧ W.cell? ⟨bx, 5, none⟩ = some (.string ⟨x.mail.envid.toArray⟩) ∧ W.cell? ⟨bx, 6, none⟩ = some (.string ⟨x.mail.text.toArray⟩) ∧ W.cell? ⟨bx, 7, none⟩ = some (.bool x.plain) ∧ W.cell? ⟨bx, 8, none⟩ = some (.slice p2 x.fates.length c2) ∧ W.cell? ⟨bx, 9, none⟩ = some (.slice (some ⟨b1, o1, none⟩) x.jobs.length c3) ∧ W.cell? ⟨b1, o1 + k * 3, none⟩ = some (.string ⟨j.dom.toArray⟩))) (by kernel_rfl) hS0 (fun hHeld => ?_)
  refine wpAnyH_take (i := 0) (oi := ?oia0) (v := ?va0) ?h1a0 (by kernel_rfl) (by kernel_rfl) (by kernel_rfl) ?h2a0 ?hya0 (by assumption) ?resta0
  case h1a0 => (simp only [List.getElem?_toArray, List.getElem?_cons_succ, List.getElem?_cons_zero]; try rfl)
  case h2a0 => exact fun c a w h => HP.out c a _ _ w h
  case hya0 => (refine Or.inl ⟨by rfl, ?_⟩; intro w hSw; (try dsimp only at hSw); go_simp; (try with_reducible rfl))
  try simp only [Act.put, List.setIfInBounds_toArray, List.set_cons_zero, List.set_cons_succ]
  refine wpAnyH_take (i := 1) (oi := ?oia1) (v := ?va1) ?h1a1 (by kernel_rfl) (by kernel_rfl) (by kernel_rfl) ?h2a1 ?hya1 (by assumption) ?resta1
  case h1a1 => (simp only [List.getElem?_toArray, List.getElem?_cons_succ, List.getElem?_cons_zero]; try rfl)
  case h2a1 => exact fun c a w h => HP.out c a _ _ w h
  case hya1 => (refine Or.inl ⟨by rfl, ?_⟩; intro w hSw; (try dsimp only at hSw); go_simp; (try with_reducible rfl))
  try simp only [Act.put, List.setIfInBounds_toArray, List.set_cons_zero, List.set_cons_succ]
  refine wpAnyH_take (i := 2) (oi := ?oia2) (v := ?va2) ?h1a2 (by kernel_rfl) (by kernel_rfl) (by kernel_rfl) ?h2a2 ?hya2 (by assumption) ?resta2
  case h1a2 => (simp only [List.getElem?_toArray, List.getElem?_cons_succ, List.getElem?_cons_zero]; try rfl)
  case h2a2 => exact fun c a w h => HP.out c a _ _ w h
  case hya2 => (refine Or.inl ⟨by rfl, ?_⟩; intro w hSw; (try dsimp only at hSw); go_simp; (try with_reducible rfl))
  try simp only [Act.put, List.setIfInBounds_toArray, List.set_cons_zero, List.set_cons_succ]
  refine wpAnyH_take (i := 3) (oi := ?oia3) (v := ?va3) ?h1a3 (by kernel_rfl) (by kernel_rfl) (by kernel_rfl) ?h2a3 ?hya3 (by assumption) ?resta3
  case h1a3 => (simp only [List.getElem?_toArray, List.getElem?_cons_succ, List.getElem?_cons_zero]; try rfl)
  case h2a3 => exact fun c a w h => HP.out c a _ _ w h
  case hya3 => (refine Or.inl ⟨by rfl, ?_⟩; intro w hSw; (try dsimp only at hSw); go_simp; (try with_reducible rfl))
  try simp only [Act.put, List.setIfInBounds_toArray, List.set_cons_zero, List.set_cons_succ]
  refine wpAnyH_take (i := 4) (oi := ?oia4) (v := ?va4) ?h1a4 (by kernel_rfl) (by kernel_rfl) (by kernel_rfl) ?h2a4 ?hya4 (by assumption) ?resta4
  case h1a4 => (simp only [List.getElem?_toArray, List.getElem?_cons_succ, List.getElem?_cons_zero]; try rfl)
  case h2a4 => exact fun c a w h => HP.out c a _ _ w h
  case hya4 => (refine Or.inl ⟨by rfl, ?_⟩; intro w hSw; (try dsimp only at hSw); go_simp; (try with_reducible rfl))
  try simp only [Act.put, List.setIfInBounds_toArray, List.set_cons_zero, List.set_cons_succ]
  refine wpAnyH_take (i := 5) (oi := ?oia5) (v := ?va5) ?h1a5 (by kernel_rfl) (by kernel_rfl) (by kernel_rfl) ?h2a5 ?hya5 (by assumption) ?resta5
  case h1a5 => (simp only [List.getElem?_toArray, List.getElem?_cons_succ, List.getElem?_cons_zero]; try rfl)
  case h2a5 => exact fun c a w h => HP.out c a _ _ w h
  case hya5 => (refine Or.inl ⟨by rfl, ?_⟩; intro w hSw; (try dsimp only at hSw); go_simp; (try with_reducible rfl))
  try simp only [Act.put, List.setIfInBounds_toArray, List.set_cons_zero, List.set_cons_succ]
  refine wpAnyH_take (i := 6) (oi := ?oia6) (v := ?va6) ?h1a6 (by kernel_rfl) (by kernel_rfl) (by kernel_rfl) ?h2a6 ?hya6 (by assumption) ?resta6
  case h1a6 => (simp only [List.getElem?_toArray, List.getElem?_cons_succ, List.getElem?_cons_zero]; try rfl)
  case h2a6 => exact fun c a w h => HP.out c a _ _ w h
  case hya6 => (refine Or.inl ⟨by rfl, ?_⟩; intro w hSw; (try dsimp only at hSw); go_simp; (try with_reducible rfl))
  try simp only [Act.put, List.setIfInBounds_toArray, List.set_cons_zero, List.set_cons_succ]
  refine wpAnyH_ready (rs := [7]) (by kernel_rfl) (by simp) ?_
  refine AllReadyH.cons (o := ?oia7) ?h1a7 (fun K hK => ?resta7) AllReadyH.nil
  case h1a7 => (simp only [List.getElem?_toArray, List.getElem?_cons_succ, List.getElem?_cons_zero]; try rfl)
  go_simp
  go_at_call 14
  refine hWt.mono ?_
  rintro e w4 ⟨⟨v, rfl, ho⟩, hb4⟩
  have hS4 := hSk w4 hb4
  refine hK.out _ _ hS4 (fun hHeld => ?_)
  clear hK K
  try simp only [Act.put, List.setIfInBounds_toArray, List.set_cons_zero, List.set_cons_succ]
  refine wpAnyH_take (i := 8) (oi := ?oia8) (v := ?va8) ?h1a8 (by kernel_rfl) (by kernel_rfl) (by kernel_rfl) ?h2a8 ?hya8 (by assumption) ?resta8
  case h1a8 => (simp only [List.getElem?_toArray, List.getElem?_cons_succ, List.getElem?_cons_zero]; try rfl)
  case h2a8 => exact fun c a w h => HP.out c a _ _ w h
  case hya8 => (refine Or.inl ⟨by rfl, ?_⟩; intro w hSw; (try dsimp only at hSw); go_simp; (try with_reducible rfl))
  try simp only [Act.put, List.setIfInBounds_toArray, List.set_cons_zero, List.set_cons_succ]
  refine wpAnyH_done (by kernel_rfl) ?_ _
  have H4 := (below_drew W).trans (hb4.mono (below_drew W).size)
  obtain ⟨wp, wc, rfl⟩ := own_shape ho
  have HZ := Lib.hid (And.intro (own_nat ho) H4)
  clear hSk hS0 hS4 ho hb4 hWt H4
  go_simp
  exact HK.out _ _ _ _ _ _ _ _ _ _ ⟨⟨wp, wc, rfl, HZ.out.1⟩, HZ.out.2⟩
end Go.Proofs.YtdlpdpelhkgnlaaGreatDoor
