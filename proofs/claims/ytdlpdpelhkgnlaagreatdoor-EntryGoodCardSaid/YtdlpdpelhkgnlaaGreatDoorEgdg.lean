/- EntryGood: End is called: its drawn region. -/
import Derived.Test.YtdlpdpelhkgnlaaGreatDoorEgda
import Derived.Deep.RegionHeld3
namespace Go.Proofs.YtdlpdpelhkgnlaaGreatDoor
open Go Go.RowKit Go.Shelf Go.Sort
attribute [local go_sem] bneI

set_option linter.unusedSimpArgs false in
set_option maxRecDepth 1000000 in
set_option maxHeartbeats 16000000 in
theorem goodG {u0 u1 u2 u3 u4 u5 u6 u7 u8 u9 u10 u12 u13 u15 u17 u19 u20 u21 u22 u23 u24 u25 u26 u27 u28 u29 u30 u31 u32 u33 u34 u35 u36 u37 u38 u39 u40 u41 u42 u43 u44 u45 u46 u47 u48 u49 u50 u51 u52 u53 u54 u55 u56 u57 u58 u59 u60 u61 u62 u63 u64 u65 u66 u67 u68 u69 u70 u71 u72 u73 u74 u75 u76 u77 u78 u79 u80 u81 u82 u83 u84 u85 u86 u87 u88 u89 u90 u91 u92 u93 u94 u95 u96 u97 u98 u99 u100 u101 u102 u103 u104 u105 u106 u107 u108 u109 u110 u111 u112 u113 u114 u115 u116 u117 u118 u119 u120 u121 u122 u123 u124 u125 u126 u127 u128 u129 u130 u131 u132 u133 u134 u135 u136 u137 u138 u139 u140 u141 u142 u143 u144 u145 u146 u147 u148 u149 u150 u151 u152 u153 u154 u155 u156 u157 u158 u159 u160 u161 u162 u163 u164 u165 u166 u167 u168 u169 u170 u171 u172 u173 u174 u175 u176 u177 u178 u179 u180 u181 u182 u183 u184 u185 u186 u187 u188 u189 u190 u191 u192 u193 u194 u195 u196 u197 u198 u199 u200 u201 u202 u203 u204 u205 u206 u207 u208 u209 u210 u211 u212 u213 u214 u215 u216 u217 u218 u219 u220 u221 u222 u223 u224 u225 u226 u227 u228 u229 u230 u231 u232 u233 u234 u235 u236 u237 u238 u239 u240 u241 u242 u243 u244 u245 u246 u247 u248 u249 u250 u251 u252 u253 u254 u255 u256 u257 u258 u259 u260 u261 u262 u263 u264 u265 u266 u267 u268 u269 u270 u271 u272 u273 u274 u275 u276 u277 u278 u279 u280 u281 u282 u283 u284 u285 u286 u287 u288 u289 u290 u291 u292 u293 u294 u295 u296 u297 u298 u299 u300 u301 u302 u303 u304 u305 u306 u307 u308 u309 u310 u311 u312 u313 u314 u315 u316 u317 u318 u319 u320 u321 u322 u323 u324 u325 u326 u327 u328 u329 u330 u331 : Value} {ds : List Deferred} (K' : Act → World → Prop) (Q' : Exit → Act → World → Prop) (x : EntP) (k : Nat) (j : JoP) (f : List FaP) (due : Int) (fp : Option Addr) (d : Nat) (bx : Nat) (sv fv jv : Value) (W : World)
    (hb : W.heap[bx]? = some (.cells (entC x sv fv jv).toArray 32 (0, 0))) (hx : EntAt W x sv fv jv) (hF : FewX x) (hj : x.jobs[k]? = some j) (hf : RowK 2 faE W (.slice fp f.length d) f) (hfl : f.length ≤ 1000000) (hft : ∀ g ∈ f, g.2.length ≤ 1000000) (hE : Env W) (hP : ∀ (c : List PanicEntry) (a : Act) (d : Tmp) (v : Value) (w : World), Q' (.panic c) (a.put (some d) v) w → Q' (.panic c) a w)
    (hK : ∀ (v19 v20 v130 v131 v132 v133 v134 v135 v136 v137 v138 v139 v140 v141 v142 : Value) (W' : World), ((∃ by_ s2 f2 j2, v19 = .pointer (some ⟨by_, 0, none⟩) ∧ v20 = .int .i64 ((endN x j.dom f due).2 : Int) ∧ W.heap.size ≤ by_ ∧ W'.heap[by_]? = some (.cells (entC (endN x j.dom f due).1 s2 f2 j2).toArray 32 (0, 0)) ∧ OwnE W' W.heap.size (endN x j.dom f due).1 s2 f2 j2) ∧ Below W.heap.size W W') → K' ⟨(u0 :: u1 :: u2 :: u3 :: u4 :: u5 :: u6 :: u7 :: u8 :: u9 :: u10 :: .pointer (some ⟨bx, 0, none⟩) :: u12 :: u13 :: .int .i64 (k : Int) :: u15 :: .slice fp f.length d :: u17 :: .int .i64 due :: v19 :: v20 :: u21 :: u22 :: u23 :: u24 :: u25 :: u26 :: u27 :: u28 :: u29 :: u30 :: u31 :: u32 :: u33 :: u34 :: u35 :: u36 :: u37 :: u38 :: u39 :: u40 :: u41 :: u42 :: u43 :: u44 :: u45 :: u46 :: u47 :: u48 :: u49 :: u50 :: u51 :: u52 :: u53 :: u54 :: u55 :: u56 :: u57 :: u58 :: u59 :: u60 :: u61 :: u62 :: u63 :: u64 :: u65 :: u66 :: u67 :: u68 :: u69 :: u70 :: u71 :: u72 :: u73 :: u74 :: u75 :: u76 :: u77 :: u78 :: u79 :: u80 :: u81 :: u82 :: u83 :: u84 :: u85 :: u86 :: u87 :: u88 :: u89 :: u90 :: u91 :: u92 :: u93 :: u94 :: u95 :: u96 :: u97 :: u98 :: u99 :: u100 :: u101 :: u102 :: u103 :: u104 :: u105 :: u106 :: u107 :: u108 :: u109 :: u110 :: u111 :: u112 :: u113 :: u114 :: u115 :: u116 :: u117 :: u118 :: u119 :: u120 :: u121 :: u122 :: u123 :: u124 :: u125 :: u126 :: u127 :: u128 :: u129 :: v130 :: v131 :: v132 :: v133 :: v134 :: v135 :: v136 :: v137 :: v138 :: v139 :: v140 :: v141 :: v142 :: u143 :: u144 :: u145 :: u146 :: u147 :: u148 :: u149 :: u150 :: u151 :: u152 :: u153 :: u154 :: u155 :: u156 :: u157 :: u158 :: u159 :: u160 :: u161 :: u162 :: u163 :: u164 :: u165 :: u166 :: u167 :: u168 :: u169 :: u170 :: u171 :: u172 :: u173 :: u174 :: u175 :: u176 :: u177 :: u178 :: u179 :: u180 :: u181 :: u182 :: u183 :: u184 :: u185 :: u186 :: u187 :: u188 :: u189 :: u190 :: u191 :: u192 :: u193 :: u194 :: u195 :: u196 :: u197 :: u198 :: u199 :: u200 :: u201 :: u202 :: u203 :: u204 :: u205 :: u206 :: u207 :: u208 :: u209 :: u210 :: u211 :: u212 :: u213 :: u214 :: u215 :: u216 :: u217 :: u218 :: u219 :: u220 :: u221 :: u222 :: u223 :: u224 :: u225 :: u226 :: u227 :: u228 :: u229 :: u230 :: u231 :: u232 :: u233 :: u234 :: u235 :: u236 :: u237 :: u238 :: u239 :: u240 :: u241 :: u242 :: u243 :: u244 :: u245 :: u246 :: u247 :: u248 :: u249 :: u250 :: u251 :: u252 :: u253 :: u254 :: u255 :: u256 :: u257 :: u258 :: u259 :: u260 :: u261 :: u262 :: u263 :: u264 :: u265 :: u266 :: u267 :: u268 :: u269 :: u270 :: u271 :: u272 :: u273 :: u274 :: u275 :: u276 :: u277 :: u278 :: u279 :: u280 :: u281 :: u282 :: u283 :: u284 :: u285 :: u286 :: u287 :: u288 :: u289 :: u290 :: u291 :: u292 :: u293 :: u294 :: u295 :: u296 :: u297 :: u298 :: u299 :: u300 :: u301 :: u302 :: u303 :: u304 :: u305 :: u306 :: u307 :: u308 :: u309 :: u310 :: u311 :: u312 :: u313 :: u314 :: u315 :: u316 :: u317 :: u318 :: u319 :: u320 :: u321 :: u322 :: u323 :: u324 :: u325 :: u326 :: u327 :: u328 :: u329 :: u330 :: u331 :: []).toArray, ds⟩ W') : (codeG Tryz.f3).wp Tryz.prog (Exit.then K' Q') ⟨(u0 :: u1 :: u2 :: u3 :: u4 :: u5 :: u6 :: u7 :: u8 :: u9 :: u10 :: .pointer (some ⟨bx, 0, none⟩) :: u12 :: u13 :: .int .i64 (k : Int) :: u15 :: .slice fp f.length d :: u17 :: .int .i64 due :: u19 :: u20 :: u21 :: u22 :: u23 :: u24 :: u25 :: u26 :: u27 :: u28 :: u29 :: u30 :: u31 :: u32 :: u33 :: u34 :: u35 :: u36 :: u37 :: u38 :: u39 :: u40 :: u41 :: u42 :: u43 :: u44 :: u45 :: u46 :: u47 :: u48 :: u49 :: u50 :: u51 :: u52 :: u53 :: u54 :: u55 :: u56 :: u57 :: u58 :: u59 :: u60 :: u61 :: u62 :: u63 :: u64 :: u65 :: u66 :: u67 :: u68 :: u69 :: u70 :: u71 :: u72 :: u73 :: u74 :: u75 :: u76 :: u77 :: u78 :: u79 :: u80 :: u81 :: u82 :: u83 :: u84 :: u85 :: u86 :: u87 :: u88 :: u89 :: u90 :: u91 :: u92 :: u93 :: u94 :: u95 :: u96 :: u97 :: u98 :: u99 :: u100 :: u101 :: u102 :: u103 :: u104 :: u105 :: u106 :: u107 :: u108 :: u109 :: u110 :: u111 :: u112 :: u113 :: u114 :: u115 :: u116 :: u117 :: u118 :: u119 :: u120 :: u121 :: u122 :: u123 :: u124 :: u125 :: u126 :: u127 :: u128 :: u129 :: u130 :: u131 :: u132 :: u133 :: u134 :: u135 :: u136 :: u137 :: u138 :: u139 :: u140 :: u141 :: u142 :: u143 :: u144 :: u145 :: u146 :: u147 :: u148 :: u149 :: u150 :: u151 :: u152 :: u153 :: u154 :: u155 :: u156 :: u157 :: u158 :: u159 :: u160 :: u161 :: u162 :: u163 :: u164 :: u165 :: u166 :: u167 :: u168 :: u169 :: u170 :: u171 :: u172 :: u173 :: u174 :: u175 :: u176 :: u177 :: u178 :: u179 :: u180 :: u181 :: u182 :: u183 :: u184 :: u185 :: u186 :: u187 :: u188 :: u189 :: u190 :: u191 :: u192 :: u193 :: u194 :: u195 :: u196 :: u197 :: u198 :: u199 :: u200 :: u201 :: u202 :: u203 :: u204 :: u205 :: u206 :: u207 :: u208 :: u209 :: u210 :: u211 :: u212 :: u213 :: u214 :: u215 :: u216 :: u217 :: u218 :: u219 :: u220 :: u221 :: u222 :: u223 :: u224 :: u225 :: u226 :: u227 :: u228 :: u229 :: u230 :: u231 :: u232 :: u233 :: u234 :: u235 :: u236 :: u237 :: u238 :: u239 :: u240 :: u241 :: u242 :: u243 :: u244 :: u245 :: u246 :: u247 :: u248 :: u249 :: u250 :: u251 :: u252 :: u253 :: u254 :: u255 :: u256 :: u257 :: u258 :: u259 :: u260 :: u261 :: u262 :: u263 :: u264 :: u265 :: u266 :: u267 :: u268 :: u269 :: u270 :: u271 :: u272 :: u273 :: u274 :: u275 :: u276 :: u277 :: u278 :: u279 :: u280 :: u281 :: u282 :: u283 :: u284 :: u285 :: u286 :: u287 :: u288 :: u289 :: u290 :: u291 :: u292 :: u293 :: u294 :: u295 :: u296 :: u297 :: u298 :: u299 :: u300 :: u301 :: u302 :: u303 :: u304 :: u305 :: u306 :: u307 :: u308 :: u309 :: u310 :: u311 :: u312 :: u313 :: u314 :: u315 :: u316 :: u317 :: u318 :: u319 :: u320 :: u321 :: u322 :: u323 :: u324 :: u325 :: u326 :: u327 :: u328 :: u329 :: u330 :: u331 :: []).toArray, ds⟩ W := by
  obtain ⟨p1, c1, rfl, -⟩ := hx.rc.sh
  obtain ⟨p2, c2, rfl, -⟩ := hx.fa.sh
  obtain ⟨p3, c3, rfl, -⟩ := hx.jo.sh
  obtain ⟨hk, hji⟩ := List.getElem?_eq_some_iff.1 hj
  have hki : (k : Int) < (x.jobs.length : Int) := by omega
  have hBD := below_drew W
  have hx1 := hx.below hBD
  have hbD := (hBD.block _ (lt_of_cells hb)).trans hb
  obtain ⟨ye, hye⟩ : ∃ ye, ye = endN x j.dom f due := ⟨_, rfl⟩
  have hEn : ∀ W', Below W.heap.size W W' → Calls Tryz.prog 15 #[entV x (.slice p1 x.mail.rcpts.length c1) (.slice p2 x.fates.length c2) (.slice p3 x.jobs.length c3), .string ⟨j.dom.toArray⟩, .slice fp f.length d, .int .i64 due] W' fun e w' => (∃ s2 f2 j2, e = .returned (.tuple #[entV ye.1 s2 f2 j2, .int .i64 (ye.2 : Int)]) ∧ OwnE w' W'.heap.size ye.1 s2 f2 j2) ∧ Below W'.heap.size W' w' := fun W' hB => by
    rw [hye]
    exact end_any x j.dom f due _ _ _ _ W' (hx.below hB) hF.short (hf.below hB) hfl hft (fun j hj => by have := jobsOk_in hF.may.jobs j hj; omega) (hE.keep hB)
  rw [← hye] at hK
  obtain ⟨b1, o1, rfl, hc1⟩ := hx1.jo.at k hk
  have hc1' := hc1 k hk
  rw [hji] at hc1'
  unfold entC at hbD
  unfold entV entC at hEn
  obtain ⟨x0, x1, x2, x3, x4, x5, x6, x7, x8, x9⟩ := eboxAll hbD
  have z0 : W.drew.cell? ⟨b1, o1 + k * 3, none⟩ = some (.string ⟨j.dom.toArray⟩) := hc1' 0 _ rfl
  have HK := Lib.hid hK
  have HP := Lib.hid hP
  clear hb hx hF hj hf hfl hft hE hK hP hBD hx1 hbD hc1 hc1' hji hye
  have hSk : ∀ W', Below W.drew.heap.size W.drew W' → W'.cell? ⟨bx, 0, none⟩ = some (.int .i64 x.id) ∧ W'.cell? ⟨bx, 1, none⟩ = some (.int .i64 x.at_) ∧ W'.cell? ⟨bx, 2, none⟩ = some (.string ⟨x.mail.sender.toArray⟩) ∧ W'.cell? ⟨bx, 3, none⟩ = some (.slice p1 x.mail.rcpts.length c1) ∧ W'.cell? ⟨bx, 4, none⟩ = some (.bool x.mail.req) ∧ W'.cell? ⟨bx, 5, none⟩ = some (.string ⟨x.mail.envid.toArray⟩) ∧ W'.cell? ⟨bx, 6, none⟩ = some (.string ⟨x.mail.text.toArray⟩) ∧ W'.cell? ⟨bx, 7, none⟩ = some (.bool x.plain) ∧ W'.cell? ⟨bx, 8, none⟩ = some (.slice p2 x.fates.length c2) ∧ W'.cell? ⟨bx, 9, none⟩ = some (.slice (some ⟨b1, o1, none⟩) x.jobs.length c3) ∧ W'.cell? ⟨b1, o1 + k * 3, none⟩ = some (.string ⟨j.dom.toArray⟩) := fun W' hB => by
    have hh := fun (a : Addr) (u : Value) (h : W.drew.cell? a = some u) => (hB.cell (p := a) (cell_lt h)).trans h
    exact ⟨hh _ _ x0, hh _ _ x1, hh _ _ x2, hh _ _ x3, hh _ _ x4, hh _ _ x5, hh _ _ x6, hh _ _ x7, hh _ _ x8, hh _ _ x9, hh _ _ z0⟩
  have hS0 := hSk W.drew (Below.refl _ _)
  conv => arg 2; whnf
  refine wp_region_held_drew (S := (fun W => W.cell? ⟨bx, 0, none⟩ = some (.int .i64 x.id) ∧ W.cell? ⟨bx, 1, none⟩ = some (.int .i64 x.at_) ∧ W.cell? ⟨bx, 2, none⟩ = some (.string ⟨x.mail.sender.toArray⟩) ∧ W.cell? ⟨bx, 3, none⟩ = some (.slice p1 x.mail.rcpts.length c1) ∧ W.cell? ⟨bx, 4, none⟩ = some (.bool x.mail.req) ∧ W.cell? ⟨bx, 5, none⟩ = some (.string ⟨x.mail.envid.toArray⟩) ∧ W.cell? ⟨bx, 6, none⟩ = some (.string ⟨x.mail.text.toArray⟩) ∧ W.cell? ⟨bx, 7, none⟩ = some (.bool x.plain) ∧ W.cell? ⟨bx, 8, none⟩ = some (.slice p2 x.fates.length c2) ∧ W.cell? ⟨bx, 9, none⟩ = some (.slice (some ⟨b1, o1, none⟩) x.jobs.length c3) ∧ W.cell? ⟨b1, o1 + k * 3, none⟩ = some (.string ⟨j.dom.toArray⟩))) (by kernel_rfl) hS0 (fun hHeld => ?_)
  refine wpAnyH_take (i := 0) (oi := ?oiq0) (v := ?vq0) ?h1q0 (by kernel_rfl) (by kernel_rfl) (by kernel_rfl) ?h2q0 ?hyq0 (by assumption) ?restq0
  case h1q0 => (simp only [List.getElem?_toArray, List.getElem?_cons_succ, List.getElem?_cons_zero]; try rfl)
  case h2q0 => exact fun c a w h => HP.out c a _ _ w h
  case hyq0 => (refine Or.inl ⟨by rfl, ?_⟩; intro w hSw; (try dsimp only at hSw); go_simp; (try with_reducible rfl))
  try simp only [Act.put, List.setIfInBounds_toArray, List.set_cons_zero, List.set_cons_succ]
  refine wpAnyH_take (i := 1) (oi := ?oiq1) (v := ?vq1) ?h1q1 (by kernel_rfl) (by kernel_rfl) (by kernel_rfl) ?h2q1 ?hyq1 (by assumption) ?restq1
  case h1q1 => (simp only [List.getElem?_toArray, List.getElem?_cons_succ, List.getElem?_cons_zero]; try rfl)
  case h2q1 => exact fun c a w h => HP.out c a _ _ w h
  case hyq1 => (refine Or.inl ⟨by rfl, ?_⟩; intro w hSw; (try dsimp only at hSw); go_simp; (try with_reducible rfl))
  try simp only [Act.put, List.setIfInBounds_toArray, List.set_cons_zero, List.set_cons_succ]
  refine wpAnyH_take (i := 2) (oi := ?oiq2) (v := ?vq2) ?h1q2 (by kernel_rfl) (by kernel_rfl) (by kernel_rfl) ?h2q2 ?hyq2 (by assumption) ?restq2
  case h1q2 => (simp only [List.getElem?_toArray, List.getElem?_cons_succ, List.getElem?_cons_zero]; try rfl)
  case h2q2 => exact fun c a w h => HP.out c a _ _ w h
  case hyq2 => (refine Or.inl ⟨by rfl, ?_⟩; intro w hSw; (try dsimp only at hSw); go_simp; (try with_reducible rfl))
  try simp only [Act.put, List.setIfInBounds_toArray, List.set_cons_zero, List.set_cons_succ]
  refine wpAnyH_take (i := 3) (oi := ?oiq3) (v := ?vq3) ?h1q3 (by kernel_rfl) (by kernel_rfl) (by kernel_rfl) ?h2q3 ?hyq3 (by assumption) ?restq3
  case h1q3 => (simp only [List.getElem?_toArray, List.getElem?_cons_succ, List.getElem?_cons_zero]; try rfl)
  case h2q3 => exact fun c a w h => HP.out c a _ _ w h
  case hyq3 => (refine Or.inl ⟨by rfl, ?_⟩; intro w hSw; (try dsimp only at hSw); go_simp; (try with_reducible rfl))
  try simp only [Act.put, List.setIfInBounds_toArray, List.set_cons_zero, List.set_cons_succ]
  refine wpAnyH_take (i := 4) (oi := ?oiq4) (v := ?vq4) ?h1q4 (by kernel_rfl) (by kernel_rfl) (by kernel_rfl) ?h2q4 ?hyq4 (by assumption) ?restq4
  case h1q4 => (simp only [List.getElem?_toArray, List.getElem?_cons_succ, List.getElem?_cons_zero]; try rfl)
  case h2q4 => exact fun c a w h => HP.out c a _ _ w h
  case hyq4 => (refine Or.inl ⟨by rfl, ?_⟩; intro w hSw; (try dsimp only at hSw); go_simp; (try with_reducible rfl))
  try simp only [Act.put, List.setIfInBounds_toArray, List.set_cons_zero, List.set_cons_succ]
  refine wpAnyH_take (i := 5) (oi := ?oiq5) (v := ?vq5) ?h1q5 (by kernel_rfl) (by kernel_rfl) (by kernel_rfl) ?h2q5 ?hyq5 (by assumption) ?restq5
  case h1q5 => (simp only [List.getElem?_toArray, List.getElem?_cons_succ, List.getElem?_cons_zero]; try rfl)
  case h2q5 => exact fun c a w h => HP.out c a _ _ w h
  case hyq5 => (refine Or.inl ⟨by rfl, ?_⟩; intro w hSw; (try dsimp only at hSw); go_simp; (try with_reducible rfl))
  try simp only [Act.put, List.setIfInBounds_toArray, List.set_cons_zero, List.set_cons_succ]
  refine wpAnyH_take (i := 6) (oi := ?oiq6) (v := ?vq6) ?h1q6 (by kernel_rfl) (by kernel_rfl) (by kernel_rfl) ?h2q6 ?hyq6 (by assumption) ?restq6
  case h1q6 => (simp only [List.getElem?_toArray, List.getElem?_cons_succ, List.getElem?_cons_zero]; try rfl)
  case h2q6 => exact fun c a w h => HP.out c a _ _ w h
  case hyq6 => (refine Or.inl ⟨by rfl, ?_⟩; intro w hSw; (try dsimp only at hSw); go_simp; (try with_reducible rfl))
  try simp only [Act.put, List.setIfInBounds_toArray, List.set_cons_zero, List.set_cons_succ]
  refine wpAnyH_take (i := 7) (oi := ?oiq7) (v := ?vq7) ?h1q7 (by kernel_rfl) (by kernel_rfl) (by kernel_rfl) ?h2q7 ?hyq7 (by assumption) ?restq7
  case h1q7 => (simp only [List.getElem?_toArray, List.getElem?_cons_succ, List.getElem?_cons_zero]; try rfl)
  case h2q7 => exact fun c a w h => HP.out c a _ _ w h
  case hyq7 => (refine Or.inl ⟨by rfl, ?_⟩; intro w hSw; (try dsimp only at hSw); go_simp; (try with_reducible rfl))
  try simp only [Act.put, List.setIfInBounds_toArray, List.set_cons_zero, List.set_cons_succ]
  refine wpAnyH_take (i := 8) (oi := ?oiq8) (v := ?vq8) ?h1q8 (by kernel_rfl) (by kernel_rfl) (by kernel_rfl) ?h2q8 ?hyq8 (by assumption) ?restq8
  case h1q8 => (simp only [List.getElem?_toArray, List.getElem?_cons_succ, List.getElem?_cons_zero]; try rfl)
  case h2q8 => exact fun c a w h => HP.out c a _ _ w h
  case hyq8 => (refine Or.inl ⟨by rfl, ?_⟩; intro w hSw; (try dsimp only at hSw); go_simp; (try with_reducible rfl))
  try simp only [Act.put, List.setIfInBounds_toArray, List.set_cons_zero, List.set_cons_succ]
  refine wpAnyH_ready (rs := [9, 13]) (by kernel_rfl) (by simp) ?_
  refine AllReadyH.cons (o := ?oA9) ?h1A9 (fun K hK => ?arm9) (AllReadyH.cons (o := ?oA13) ?h1A13 (fun K hK => ?arm13) AllReadyH.nil)
  case h1A9 => (simp only [List.getElem?_toArray, List.getElem?_cons_succ, List.getElem?_cons_zero]; try rfl)
  case h1A13 => (simp only [List.getElem?_toArray, List.getElem?_cons_succ, List.getElem?_cons_zero]; try rfl)
  case arm9 =>
    go_simp
    go_at_call 15
    refine (hEn _ (below_drew W)).mono ?_
    rintro e w6 ⟨⟨s2, f2, j2, rfl, hown⟩, hb6⟩
    have hS6 := hSk w6 hb6
    obtain ⟨q1, d1, rfl⟩ := own_shape hown.rc
    obtain ⟨q2, d2, rfl⟩ := own_shape hown.fa
    obtain ⟨q3, d3, rfl⟩ := own_shape hown.jo
    refine hK.out _ _ hS6 (fun hHeld => ?_)
    clear hK K
    try simp only [Act.put, List.setIfInBounds_toArray, List.set_cons_zero, List.set_cons_succ]
    refine wpAnyH_take (i := 10) (oi := ?oir10) (v := ?vr10) ?h1r10 (by kernel_rfl) (by kernel_rfl) (by kernel_rfl) ?h2r10 ?hyr10 (by assumption) ?restr10
    case h1r10 => (simp only [List.getElem?_toArray, List.getElem?_cons_succ, List.getElem?_cons_zero]; try rfl)
    case h2r10 => exact fun c a w h => HP.out c a _ _ w h
    case hyr10 => (refine Or.inl ⟨by rfl, ?_⟩; intro w hSw; (try dsimp only at hSw); go_simp; (try with_reducible rfl))
    try simp only [Act.put, List.setIfInBounds_toArray, List.set_cons_zero, List.set_cons_succ]
    refine wpAnyH_take (i := 11) (oi := ?oir11) (v := ?vr11) ?h1r11 (by kernel_rfl) (by kernel_rfl) (by kernel_rfl) ?h2r11 ?hyr11 (by assumption) ?restr11
    case h1r11 => (simp only [List.getElem?_toArray, List.getElem?_cons_succ, List.getElem?_cons_zero]; try rfl)
    case h2r11 => exact fun c a w h => HP.out c a _ _ w h
    case hyr11 => (refine Or.inl ⟨by rfl, ?_⟩; intro w hSw; (try dsimp only at hSw); go_simp; (try with_reducible rfl))
    try simp only [Act.put, List.setIfInBounds_toArray, List.set_cons_zero, List.set_cons_succ]
    refine wpAnyH_take (i := 12) (oi := ?oir12) (v := ?vr12) ?h1r12 (by kernel_rfl) (by kernel_rfl) (by kernel_rfl) ?h2r12 ?hyr12 (by assumption) ?restr12
    case h1r12 => (simp only [List.getElem?_toArray, List.getElem?_cons_succ, List.getElem?_cons_zero]; try rfl)
    case h2r12 => exact fun c a w h => HP.out c a _ _ w h
    case hyr12 => (refine Or.inl ⟨by rfl, ?_⟩; intro w hSw; (try dsimp only at hSw); go_simp; (try with_reducible rfl))
    try simp only [Act.put, List.setIfInBounds_toArray, List.set_cons_zero, List.set_cons_succ]
    refine wpAnyH_ready (rs := [13]) (by kernel_rfl) (by simp) ?_
    refine AllReadyH.cons (o := ?oB13) ?h1B13 (fun K hK => ?brm13) AllReadyH.nil
    case h1B13 => (simp only [List.getElem?_toArray, List.getElem?_cons_succ, List.getElem?_cons_zero]; try rfl)
    case brm13 =>
      go_simp
      refine hK.out _ _ (hSk _ (hb6.alloc hb6.size _)) (fun hHeld => ?_)
      clear hK K
      try simp only [Act.put, List.setIfInBounds_toArray, List.set_cons_zero, List.set_cons_succ]
      refine wpAnyH_ready (rs := [14]) (by kernel_rfl) (by simp) ?_
      refine AllReadyH.cons (o := ?oB14) ?h1B14 (fun K hK => ?brm14) AllReadyH.nil
      case h1B14 => (simp only [List.getElem?_toArray, List.getElem?_cons_succ, List.getElem?_cons_zero]; try rfl)
      case brm14 =>
        go_simp
        have hB7 : Below W.drew.heap.size W.drew (w6.alloc (.cells (entC ye.1 (.slice q1 ye.1.mail.rcpts.length d1) (.slice q2 ye.1.fates.length d2) (.slice q3 ye.1.jobs.length d3)).toArray 32)) := hb6.alloc hb6.size _
        refine hK.out _ _ (hSk _ hB7) (fun hHeld => ?_)
        clear hK K
        try simp only [Act.put, List.setIfInBounds_toArray, List.set_cons_zero, List.set_cons_succ]
        refine wpAnyH_take (i := 15) (oi := ?oit15) (v := ?vt15) ?h1t15 (by kernel_rfl) (by kernel_rfl) (by kernel_rfl) ?h2t15 ?hyt15 (by assumption) ?restt15
        case h1t15 => (simp only [List.getElem?_toArray, List.getElem?_cons_succ, List.getElem?_cons_zero]; try rfl)
        case h2t15 => exact fun c a w h => HP.out c a _ _ w h
        case hyt15 => (refine Or.inl ⟨by rfl, ?_⟩; intro w hSw; (try dsimp only at hSw); go_simp; (try with_reducible rfl))
        try simp only [Act.put, List.setIfInBounds_toArray, List.set_cons_zero, List.set_cons_succ]
        refine wpAnyH_done (by kernel_rfl) ?_ _
        have hown7 : OwnE (w6.alloc (.cells (entC ye.1 (.slice q1 ye.1.mail.rcpts.length d1) (.slice q2 ye.1.fates.length d2) (.slice q3 ye.1.jobs.length d3)).toArray 32)) W.heap.size ye.1 (.slice q1 ye.1.mail.rcpts.length d1) (.slice q2 ye.1.fates.length d2) (.slice q3 ye.1.jobs.length d3) :=
          ⟨hown.rc.kept (World.grownBy_alloc w6 _ none) (Classical.em _), hown.fa.kept (World.grownBy_alloc w6 _ none) (Classical.em _), hown.jo.kept (World.grownBy_alloc w6 _ none) (Classical.em _)⟩
        have hB8 := (below_drew W).trans (hB7.mono (below_drew W).size)
        have hge : W.heap.size ≤ w6.heap.size := hb6.size
        unfold entC at hown7 hB8
        have HZ := Lib.hid (And.intro hown7 (And.intro hB8 hge))
        clear hSk hS0 hb6 hS6 hB7 hown7 hB8 hge
        go_simp
        exact HK.out _ _ _ _ _ _ _ _ _ _ _ _ _ _ _ _ ⟨⟨w6.heap.size, _, _, _, rfl, rfl, HZ.out.2.2, ha_eq rfl, HZ.out.1⟩, HZ.out.2.1⟩
  case arm13 =>
    go_simp
    refine hK.out _ _ (hSk _ ((Below.refl _ _).alloc (Nat.le_refl _) _)) (fun hHeld => ?_)
    clear hK K
    try simp only [Act.put, List.setIfInBounds_toArray, List.set_cons_zero, List.set_cons_succ]
    refine wpAnyH_ready (rs := [9]) (by kernel_rfl) (by simp) ?_
    refine AllReadyH.cons (o := ?oC9) ?h1C9 (fun K hK => ?crm9) AllReadyH.nil
    case h1C9 => (simp only [List.getElem?_toArray, List.getElem?_cons_succ, List.getElem?_cons_zero]; try rfl)
    case crm9 =>
      go_simp
      go_at_call 15
      refine (hEn _ ((below_drew W).trans (((Below.refl _ _).alloc (Nat.le_refl _) _).mono (below_drew W).size))).mono ?_
      rintro e w6 ⟨⟨s2, f2, j2, rfl, hown⟩, hb6⟩
      have hbz := hb6.block W.heap.size (by show W.heap.size < (W.heap.push _).size; simp)
      have hb7 : Below W.drew.heap.size W.drew w6 := ((Below.refl W.drew.heap.size W.drew).alloc (Nat.le_refl _) _).trans (hb6.mono (by show W.heap.size ≤ (W.heap.push _).size; simp))
      have hS6 := hSk w6 hb7
      obtain ⟨q1, d1, rfl⟩ := own_shape hown.rc
      obtain ⟨q2, d2, rfl⟩ := own_shape hown.fa
      obtain ⟨q3, d3, rfl⟩ := own_shape hown.jo
      refine hK.out _ _ hS6 (fun hHeld => ?_)
      clear hK K
      try simp only [Act.put, List.setIfInBounds_toArray, List.set_cons_zero, List.set_cons_succ]
      refine wpAnyH_take (i := 10) (oi := ?ois10) (v := ?vs10) ?h1s10 (by kernel_rfl) (by kernel_rfl) (by kernel_rfl) ?h2s10 ?hys10 (by assumption) ?rests10
      case h1s10 => (simp only [List.getElem?_toArray, List.getElem?_cons_succ, List.getElem?_cons_zero]; try rfl)
      case h2s10 => exact fun c a w h => HP.out c a _ _ w h
      case hys10 => (refine Or.inl ⟨by rfl, ?_⟩; intro w hSw; (try dsimp only at hSw); go_simp; (try with_reducible rfl))
      try simp only [Act.put, List.setIfInBounds_toArray, List.set_cons_zero, List.set_cons_succ]
      refine wpAnyH_take (i := 11) (oi := ?ois11) (v := ?vs11) ?h1s11 (by kernel_rfl) (by kernel_rfl) (by kernel_rfl) ?h2s11 ?hys11 (by assumption) ?rests11
      case h1s11 => (simp only [List.getElem?_toArray, List.getElem?_cons_succ, List.getElem?_cons_zero]; try rfl)
      case h2s11 => exact fun c a w h => HP.out c a _ _ w h
      case hys11 => (refine Or.inl ⟨by rfl, ?_⟩; intro w hSw; (try dsimp only at hSw); go_simp; (try with_reducible rfl))
      try simp only [Act.put, List.setIfInBounds_toArray, List.set_cons_zero, List.set_cons_succ]
      refine wpAnyH_take (i := 12) (oi := ?ois12) (v := ?vs12) ?h1s12 (by kernel_rfl) (by kernel_rfl) (by kernel_rfl) ?h2s12 ?hys12 (by assumption) ?rests12
      case h1s12 => (simp only [List.getElem?_toArray, List.getElem?_cons_succ, List.getElem?_cons_zero]; try rfl)
      case h2s12 => exact fun c a w h => HP.out c a _ _ w h
      case hys12 => (refine Or.inl ⟨by rfl, ?_⟩; intro w hSw; (try dsimp only at hSw); go_simp; (try with_reducible rfl))
      try simp only [Act.put, List.setIfInBounds_toArray, List.set_cons_zero, List.set_cons_succ]
      refine wpAnyH_ready (rs := [14]) (by kernel_rfl) (by simp) ?_
      refine AllReadyH.cons (o := ?oC14) ?h1C14 (fun K hK => ?crm14) AllReadyH.nil
      case h1C14 => (simp only [List.getElem?_toArray, List.getElem?_cons_succ, List.getElem?_cons_zero]; try rfl)
      case crm14 =>
        have hzb : w6.heap[W.heap.size]? = some (.cells zeroC 32 (0, 0)) := hbz.trans (ha_eq rfl)
        have HZB := Lib.hid hzb
        unfold zeroC at hzb
        obtain ⟨g0, g1, g2, g3, g4, g5, g6, g7, g8, g9⟩ := eboxAll hzb
        have e0 := efroz hzb 0
        have e1 := efroz hzb 1
        have e2 := efroz hzb 2
        have e3 := efroz hzb 3
        have e4 := efroz hzb 4
        have e5 := efroz hzb 5
        have e6 := efroz hzb 6
        have e7 := efroz hzb 7
        have e8 := efroz hzb 8
        have e9 := efroz hzb 9
        clear hzb hbz
        go_simp
        clear g0 g1 g2 g3 g4 g5 g6 g7 g8 g9 e0 e1 e2 e3 e4 e5 e6 e7 e8 e9
        have hzb := HZB.out
        unfold zeroC at hzb
        have hbx := setAll_box hzb (.int .i64 ye.1.id) (.int .i64 ye.1.at_) (.string ⟨ye.1.mail.sender.toArray⟩) (.slice q1 ye.1.mail.rcpts.length d1) (.bool ye.1.mail.req) (.string ⟨ye.1.mail.envid.toArray⟩) (.string ⟨ye.1.mail.text.toArray⟩) (.bool ye.1.plain) (.slice q2 ye.1.fates.length d2) (.slice q3 ye.1.jobs.length d3)
        have hB7 := setAll_below (b := W.heap.size) hb7 (Nat.le_refl _) (.int .i64 ye.1.id) (.int .i64 ye.1.at_) (.string ⟨ye.1.mail.sender.toArray⟩) (.slice q1 ye.1.mail.rcpts.length d1) (.bool ye.1.mail.req) (.string ⟨ye.1.mail.envid.toArray⟩) (.string ⟨ye.1.mail.text.toArray⟩) (.bool ye.1.plain) (.slice q2 ye.1.fates.length d2) (.slice q3 ye.1.jobs.length d3)
        have hown6 := hown.less (a := W.heap.size) (by show W.heap.size ≤ (W.heap.push _).size; simp)
        have hown7 : OwnE (setAll w6 W.heap.size (.int .i64 ye.1.id) (.int .i64 ye.1.at_) (.string ⟨ye.1.mail.sender.toArray⟩) (.slice q1 ye.1.mail.rcpts.length d1) (.bool ye.1.mail.req) (.string ⟨ye.1.mail.envid.toArray⟩) (.string ⟨ye.1.mail.text.toArray⟩) (.bool ye.1.plain) (.slice q2 ye.1.fates.length d2) (.slice q3 ye.1.jobs.length d3)) W.heap.size ye.1 (.slice q1 ye.1.mail.rcpts.length d1) (.slice q2 ye.1.fates.length d2) (.slice q3 ye.1.jobs.length d3) :=
          ⟨own_set hown6.rc hzb (by decide) _ _ _ _ _ _ _ _ _ _, own_set hown6.fa hzb (by decide) _ _ _ _ _ _ _ _ _ _, own_set hown6.jo hzb (by decide) _ _ _ _ _ _ _ _ _ _⟩
        obtain ⟨W7, hW7⟩ : ∃ W7, W7 = setAll w6 W.heap.size (.int .i64 ye.1.id) (.int .i64 ye.1.at_) (.string ⟨ye.1.mail.sender.toArray⟩) (.slice q1 ye.1.mail.rcpts.length d1) (.bool ye.1.mail.req) (.string ⟨ye.1.mail.envid.toArray⟩) (.string ⟨ye.1.mail.text.toArray⟩) (.bool ye.1.plain) (.slice q2 ye.1.fates.length d2) (.slice q3 ye.1.jobs.length d3) := ⟨_, rfl⟩
        rw [← hW7] at hbx hB7 hown7
        have hS7 := hSk _ hB7
        unfold setAll at hW7
        rw [← hW7]
        refine hK.out _ _ hS7 (fun hHeld => ?_)
        clear hK K
        try simp only [Act.put, List.setIfInBounds_toArray, List.set_cons_zero, List.set_cons_succ]
        refine wpAnyH_take (i := 15) (oi := ?oiv15) (v := ?vv15) ?h1v15 (by kernel_rfl) (by kernel_rfl) (by kernel_rfl) ?h2v15 ?hyv15 (by assumption) ?restv15
        case h1v15 => (simp only [List.getElem?_toArray, List.getElem?_cons_succ, List.getElem?_cons_zero]; try rfl)
        case h2v15 => exact fun c a w h => HP.out c a _ _ w h
        case hyv15 => (refine Or.inl ⟨by rfl, ?_⟩; intro w hSw; (try dsimp only at hSw); go_simp; (try with_reducible rfl))
        try simp only [Act.put, List.setIfInBounds_toArray, List.set_cons_zero, List.set_cons_succ]
        refine wpAnyH_done (by kernel_rfl) ?_ _
        have hB8 := (below_drew W).trans (hB7.mono (below_drew W).size)
        have HZ := Lib.hid (And.intro hown7 (And.intro hB8 hbx))
        clear hSk hS0 hb6 hS6 hB7 hown7 hB8 hbx hS7 hown6 hzb hW7
        go_simp
        exact HK.out _ _ _ _ _ _ _ _ _ _ _ _ _ _ _ _ ⟨⟨W.heap.size, _, _, _, rfl, rfl, Nat.le_refl _, HZ.out.2.2, HZ.out.1⟩, HZ.out.2.1⟩
end Go.Proofs.YtdlpdpelhkgnlaaGreatDoor
