/- EntryGood: its last part. -/
import Derived.Test.YtdlpdpelhkgnlaaGreatDoorEgda
import Derived.Deep.RegionHeld3
namespace Go.Proofs.YtdlpdpelhkgnlaaGreatDoor
open Go Go.RowKit Go.Shelf Go.Sort
attribute [local go_sem] bneI

theorem waits_many (x : EntP) (d : Bytes) (n : Nat) (hn : n = (waitsM x d).length) (sv fv jv : Value) (w : World) (hx : EntAt w x sv fv jv) (hs : ShortE x) (hE : Env w) :
    Calls Tryz.prog 14 #[entV x sv fv jv, .string ⟨d.toArray⟩] w fun e w' => (∃ p c, e = .returned (.slice p n c)) ∧ Below w.heap.size w w' := by
  refine (waits_any x d sv fv jv w hx hs hE).mono ?_
  rintro e w' ⟨⟨v, rfl, ho⟩, hb⟩
  obtain ⟨p, c, rfl⟩ := own_shape ho
  exact ⟨⟨p, c, by rw [hn]⟩, hb⟩
set_option linter.unusedSimpArgs false in
set_option maxRecDepth 1000000 in
set_option maxHeartbeats 16000000 in
theorem goodE {u0 u1 u2 u3 u4 u5 u6 u7 u8 u9 u10 u12 u13 u14 u15 u16 u17 u18 u19 u20 u21 u22 u23 u24 u25 u26 u27 u28 u29 u30 u31 u32 u33 u34 u35 u36 u37 u38 u39 u40 u41 u42 u43 u44 u45 u46 u47 u48 u49 u50 u51 u52 u53 u54 u55 u56 u57 u58 u59 u60 u61 u62 u63 u64 u65 u66 u67 u68 u69 u70 u71 u72 u73 u74 u75 u76 u77 u78 u79 u80 u81 u82 u83 u84 u85 u86 u87 u88 u89 u90 u91 u92 u93 u94 u95 u96 u97 u98 u99 u100 u101 u102 u103 u104 u105 u106 u107 u108 u109 u110 u111 u112 u113 u114 u115 u116 u117 u118 u119 u120 u121 u122 u123 u124 u125 u126 u127 u128 u129 u130 u131 u132 u133 u134 u135 u136 u137 u138 u139 u140 u141 u142 u143 u144 u145 u146 u147 u148 u149 u150 u151 u152 u153 u154 u155 u156 u157 u158 u159 u160 u161 u162 u163 u164 u165 u166 u167 u168 u169 u170 u171 u172 u173 u174 u175 u176 u177 u178 u179 u180 u181 u182 u183 u184 u185 u186 u187 u188 u189 u190 u191 u192 u193 u194 u195 u196 u197 u198 u199 u200 u201 u202 u203 u204 u205 u206 u207 u208 u209 u210 u211 u212 u213 u214 u215 u216 u217 u218 u219 u220 u221 u222 u223 u224 u225 u226 u227 u228 u229 u230 u231 u232 u233 u234 u235 u236 u237 u238 u239 u240 u241 u242 u243 u244 u245 u246 u247 u248 u249 u250 u251 u252 u253 u254 u255 u256 u257 u258 u259 u260 u261 u262 u263 u264 u265 u266 u267 u268 u269 u270 u271 u272 u273 u274 u275 u276 u277 u278 u279 u280 u281 u282 u283 u284 u285 u286 u287 u288 u289 u290 u291 u292 u293 u294 u295 u296 u297 u298 u299 u300 u301 u302 u303 u304 u305 u306 u307 u308 u309 u310 u311 u312 u313 u314 u315 u316 u317 u318 u319 u320 u321 u322 u323 u324 u325 u326 u327 u328 u329 u330 u331 : Value} {ds : List Deferred} (K : Act → World → Prop) (Q : Exit → Act → World → Prop) (hrest : ∀ a w, (cB (codeE Tryz.f3)).wp Tryz.prog Q a w → K a w) (x : EntP) (bx : Nat) (sv fv jv : Value) (W : World)
    (hb : W.heap[bx]? = some (.cells (entC x sv fv jv).toArray 32 (0, 0))) (hx : EntAt W x sv fv jv) (hF : FewX x) (hE : Env W) (hP : ∀ (c : List PanicEntry) (a : Act) (d : Tmp) (v : Value) (w : World), Q (.panic c) (a.put (some d) v) w → Q (.panic c) a w)
    (hK : ∀ (v26 v27 v28 v29 v288 v289 v290 v291 v292 v293 v294 v295 v296 v297 v298 v299 v300 v301 v302 v303 v304 v305 v306 v307 v308 v309 v310 v311 v312 v313 v314 v315 v316 v317 v318 v319 v320 v321 v322 v323 v324 v325 v326 v327 v328 v329 v330 v331 : Value) (W' : World), Below W.heap.size W W' → Q .ret ⟨(u0 :: u1 :: u2 :: u3 :: u4 :: u5 :: u6 :: u7 :: u8 :: u9 :: .bool true :: .pointer (some ⟨bx, 0, none⟩) :: u12 :: u13 :: u14 :: u15 :: u16 :: u17 :: u18 :: u19 :: u20 :: u21 :: u22 :: u23 :: u24 :: u25 :: v26 :: v27 :: v28 :: v29 :: u30 :: u31 :: u32 :: u33 :: u34 :: u35 :: u36 :: u37 :: u38 :: u39 :: u40 :: u41 :: u42 :: u43 :: u44 :: u45 :: u46 :: u47 :: u48 :: u49 :: u50 :: u51 :: u52 :: u53 :: u54 :: u55 :: u56 :: u57 :: u58 :: u59 :: u60 :: u61 :: u62 :: u63 :: u64 :: u65 :: u66 :: u67 :: u68 :: u69 :: u70 :: u71 :: u72 :: u73 :: u74 :: u75 :: u76 :: u77 :: u78 :: u79 :: u80 :: u81 :: u82 :: u83 :: u84 :: u85 :: u86 :: u87 :: u88 :: u89 :: u90 :: u91 :: u92 :: u93 :: u94 :: u95 :: u96 :: u97 :: u98 :: u99 :: u100 :: u101 :: u102 :: u103 :: u104 :: u105 :: u106 :: u107 :: u108 :: u109 :: u110 :: u111 :: u112 :: u113 :: u114 :: u115 :: u116 :: u117 :: u118 :: u119 :: u120 :: u121 :: u122 :: u123 :: u124 :: u125 :: u126 :: u127 :: u128 :: u129 :: u130 :: u131 :: u132 :: u133 :: u134 :: u135 :: u136 :: u137 :: u138 :: u139 :: u140 :: u141 :: u142 :: u143 :: u144 :: u145 :: u146 :: u147 :: u148 :: u149 :: u150 :: u151 :: u152 :: u153 :: u154 :: u155 :: u156 :: u157 :: u158 :: u159 :: u160 :: u161 :: u162 :: u163 :: u164 :: u165 :: u166 :: u167 :: u168 :: u169 :: u170 :: u171 :: u172 :: u173 :: u174 :: u175 :: u176 :: u177 :: u178 :: u179 :: u180 :: u181 :: u182 :: u183 :: u184 :: u185 :: u186 :: u187 :: u188 :: u189 :: u190 :: u191 :: u192 :: u193 :: u194 :: u195 :: u196 :: u197 :: u198 :: u199 :: u200 :: u201 :: u202 :: u203 :: u204 :: u205 :: u206 :: u207 :: u208 :: u209 :: u210 :: u211 :: u212 :: u213 :: u214 :: u215 :: u216 :: u217 :: u218 :: u219 :: u220 :: u221 :: u222 :: u223 :: u224 :: u225 :: u226 :: u227 :: u228 :: u229 :: u230 :: u231 :: u232 :: u233 :: u234 :: u235 :: u236 :: u237 :: u238 :: u239 :: u240 :: u241 :: u242 :: u243 :: u244 :: u245 :: u246 :: u247 :: u248 :: u249 :: u250 :: u251 :: u252 :: u253 :: u254 :: u255 :: u256 :: u257 :: u258 :: u259 :: u260 :: u261 :: u262 :: u263 :: u264 :: u265 :: u266 :: u267 :: u268 :: u269 :: u270 :: u271 :: u272 :: u273 :: u274 :: u275 :: u276 :: u277 :: u278 :: u279 :: u280 :: u281 :: u282 :: u283 :: u284 :: u285 :: u286 :: u287 :: v288 :: v289 :: v290 :: v291 :: v292 :: v293 :: v294 :: v295 :: v296 :: v297 :: v298 :: v299 :: v300 :: v301 :: v302 :: v303 :: v304 :: v305 :: v306 :: v307 :: v308 :: v309 :: v310 :: v311 :: v312 :: v313 :: v314 :: v315 :: v316 :: v317 :: v318 :: v319 :: v320 :: v321 :: v322 :: v323 :: v324 :: v325 :: v326 :: v327 :: v328 :: v329 :: v330 :: v331 :: []).toArray, ds⟩ W') : (cA (codeE Tryz.f3)).wp Tryz.prog (Exit.then K Q) ⟨(u0 :: u1 :: u2 :: u3 :: u4 :: u5 :: u6 :: u7 :: u8 :: u9 :: u10 :: .pointer (some ⟨bx, 0, none⟩) :: u12 :: u13 :: u14 :: u15 :: u16 :: u17 :: u18 :: u19 :: u20 :: u21 :: u22 :: u23 :: u24 :: u25 :: u26 :: u27 :: u28 :: u29 :: u30 :: u31 :: u32 :: u33 :: u34 :: u35 :: u36 :: u37 :: u38 :: u39 :: u40 :: u41 :: u42 :: u43 :: u44 :: u45 :: u46 :: u47 :: u48 :: u49 :: u50 :: u51 :: u52 :: u53 :: u54 :: u55 :: u56 :: u57 :: u58 :: u59 :: u60 :: u61 :: u62 :: u63 :: u64 :: u65 :: u66 :: u67 :: u68 :: u69 :: u70 :: u71 :: u72 :: u73 :: u74 :: u75 :: u76 :: u77 :: u78 :: u79 :: u80 :: u81 :: u82 :: u83 :: u84 :: u85 :: u86 :: u87 :: u88 :: u89 :: u90 :: u91 :: u92 :: u93 :: u94 :: u95 :: u96 :: u97 :: u98 :: u99 :: u100 :: u101 :: u102 :: u103 :: u104 :: u105 :: u106 :: u107 :: u108 :: u109 :: u110 :: u111 :: u112 :: u113 :: u114 :: u115 :: u116 :: u117 :: u118 :: u119 :: u120 :: u121 :: u122 :: u123 :: u124 :: u125 :: u126 :: u127 :: u128 :: u129 :: u130 :: u131 :: u132 :: u133 :: u134 :: u135 :: u136 :: u137 :: u138 :: u139 :: u140 :: u141 :: u142 :: u143 :: u144 :: u145 :: u146 :: u147 :: u148 :: u149 :: u150 :: u151 :: u152 :: u153 :: u154 :: u155 :: u156 :: u157 :: u158 :: u159 :: u160 :: u161 :: u162 :: u163 :: u164 :: u165 :: u166 :: u167 :: u168 :: u169 :: u170 :: u171 :: u172 :: u173 :: u174 :: u175 :: u176 :: u177 :: u178 :: u179 :: u180 :: u181 :: u182 :: u183 :: u184 :: u185 :: u186 :: u187 :: u188 :: u189 :: u190 :: u191 :: u192 :: u193 :: u194 :: u195 :: u196 :: u197 :: u198 :: u199 :: u200 :: u201 :: u202 :: u203 :: u204 :: u205 :: u206 :: u207 :: u208 :: u209 :: u210 :: u211 :: u212 :: u213 :: u214 :: u215 :: u216 :: u217 :: u218 :: u219 :: u220 :: u221 :: u222 :: u223 :: u224 :: u225 :: u226 :: u227 :: u228 :: u229 :: u230 :: u231 :: u232 :: u233 :: u234 :: u235 :: u236 :: u237 :: u238 :: u239 :: u240 :: u241 :: u242 :: u243 :: u244 :: u245 :: u246 :: u247 :: u248 :: u249 :: u250 :: u251 :: u252 :: u253 :: u254 :: u255 :: u256 :: u257 :: u258 :: u259 :: u260 :: u261 :: u262 :: u263 :: u264 :: u265 :: u266 :: u267 :: u268 :: u269 :: u270 :: u271 :: u272 :: u273 :: u274 :: u275 :: u276 :: u277 :: u278 :: u279 :: u280 :: u281 :: u282 :: u283 :: u284 :: u285 :: u286 :: u287 :: u288 :: u289 :: u290 :: u291 :: u292 :: u293 :: u294 :: u295 :: u296 :: u297 :: u298 :: u299 :: u300 :: u301 :: u302 :: u303 :: u304 :: u305 :: u306 :: u307 :: u308 :: u309 :: u310 :: u311 :: u312 :: u313 :: u314 :: u315 :: u316 :: u317 :: u318 :: u319 :: u320 :: u321 :: u322 :: u323 :: u324 :: u325 :: u326 :: u327 :: u328 :: u329 :: u330 :: u331 :: []).toArray, ds⟩ W := by
  obtain ⟨p1, c1, rfl, -⟩ := hx.rc.sh
  obtain ⟨p2, c2, rfl, -⟩ := hx.fa.sh
  obtain ⟨p3, c3, rfl, -⟩ := hx.jo.sh
  have hF4 := hF.fates
  have hJ4 := hF.jobs
  have HX := Lib.hid (And.intro hb (And.intro hx (And.intro hF hE)))
  have HK := Lib.hid hK
  have HP := Lib.hid hP
  clear hb hx hF hE hK hP
  conv => arg 2; whnf
  go_wp2_with fail
  conv => arg 2; whnf
  go_wp2_with fail
  go_loopw [26, 28] (fun s26 s28 wr => ∃ n : Nat, s28 = .int .i64 (n : Int) ∧ n ≤ x.jobs.length ∧ s26 = .int .i64 (waitsP x n : Int) ∧ Below W.heap.size W wr) (fun _ s28 _ => x.jobs.length - natI s28)
  case atStart => exact ⟨0, rfl, Nat.zero_le _, rfl, Below.refl _ _⟩
  case round =>
    obtain ⟨n, rfl, hn, rfl, hB⟩ := hrel
    have HB := Lib.hid hB
    by_cases hlast : n < x.jobs.length
    · have hli : (n : Int) < (x.jobs.length : Int) := by omega
      have hw1 : wrap64 ((n : Int) + 1) = (n : Int) + 1 := by unfold wrap64; omega
      have hBD := hB.trans ((below_drew wr).mono hB.size)
      have hx1 := HX.out.2.1.below hBD
      have hbx := (hB.block _ (lt_of_cells HX.out.1)).trans HX.out.1
      have hbD := (hBD.block _ (lt_of_cells HX.out.1)).trans HX.out.1
      unfold entC at hbx hbD
      obtain ⟨x0, x1, x2, x3, x4, x5, x6, x7, x8, x9⟩ := eboxAll hbD
      obtain ⟨-, -, -, -, -, -, -, -, -, k9⟩ := eboxAll hbx
      obtain ⟨b1, o1, rfl, hc1⟩ := hx1.jo.at n hlast
      obtain ⟨j, hj⟩ : ∃ j, x.jobs[n]? = some j := ⟨_, List.getElem?_eq_getElem hlast⟩
      have hji : x.jobs[n] = j := by rw [List.getElem?_eq_getElem hlast] at hj; injection hj
      have hc1' := hc1 n hlast
      rw [hji] at hc1'
      have z0 : wr.drew.cell? ⟨b1, o1 + n * 3, none⟩ = some (.string ⟨j.dom.toArray⟩) := hc1' 0 _ rfl
      obtain ⟨m, hm⟩ : ∃ m, m = (waitsM x j.dom).length := ⟨_, rfl⟩
      have hWt := waits_many x j.dom m hm _ _ _ wr.drew hx1 HX.out.2.2.1.short (HX.out.2.2.2.keep hBD)
      unfold entV entC at hWt
      have hsu := waitsP_succ hj
      rw [← hm] at hsu
      have h16 := waitsP_le HX.out.2.2.1 n
      have hm4 : m ≤ 4 := by rw [hm]; exact Nat.le_trans (waits_le x j.dom) HX.out.2.2.1.fates
      have hwa : IntKind.i64.wrap ((waitsP x n : Int) + (m : Int)) = (waitsP x n : Int) + (m : Int) := by rw [IntKind.wrap_i64]; omega
      have HS := Lib.hid hsu
      clear hB hBD hx1 hbx hbD hc1 hc1' hji hj hm hsu h16 hm4
      go_upto_region 44 with (fail)
      have hSk : ∀ W, Below wr.drew.heap.size wr.drew W → W.cell? ⟨bx, 0, none⟩ = some (.int .i64 x.id) ∧ W.cell? ⟨bx, 1, none⟩ = some (.int .i64 x.at_) ∧ W.cell? ⟨bx, 2, none⟩ = some (.string ⟨x.mail.sender.toArray⟩) ∧ W.cell? ⟨bx, 3, none⟩ = some (.slice p1 x.mail.rcpts.length c1) ∧ W.cell? ⟨bx, 4, none⟩ = some (.bool x.mail.req) ∧ W.cell? ⟨bx, 5, none⟩ = some (.string ⟨x.mail.envid.toArray⟩) ∧ W.cell? ⟨bx, 6, none⟩ = some (.string ⟨x.mail.text.toArray⟩) ∧ W.cell? ⟨bx, 7, none⟩ = some (.bool x.plain) ∧ W.cell? ⟨bx, 8, none⟩ = some (.slice p2 x.fates.length c2) ∧ W.cell? ⟨bx, 9, none⟩ = some (.slice (some ⟨b1, o1, none⟩) x.jobs.length c3) ∧ W.cell? ⟨b1, o1 + n * 3, none⟩ = some (.string ⟨j.dom.toArray⟩) := fun W hB => by
        have hh := fun (a : Addr) (u : Value) (h : wr.drew.cell? a = some u) => (hB.cell (p := a) (cell_lt h)).trans h
        exact ⟨hh _ _ x0, hh _ _ x1, hh _ _ x2, hh _ _ x3, hh _ _ x4, hh _ _ x5, hh _ _ x6, hh _ _ x7, hh _ _ x8, hh _ _ x9, hh _ _ z0⟩
      have hS0 := hSk wr.drew (Below.refl _ _)
      refine wp_region_held_drew (S := (fun W => W.cell? ⟨bx, 0, none⟩ = some (.int .i64 x.id) ∧ W.cell? ⟨bx, 1, none⟩ = some (.int .i64 x.at_) ∧ W.cell? ⟨bx, 2, none⟩ = some (.string ⟨x.mail.sender.toArray⟩) ∧ W.cell? ⟨bx, 3, none⟩ = some (.slice p1 x.mail.rcpts.length c1) ∧ W.cell? ⟨bx, 4, none⟩ = some (.bool x.mail.req) ∧ W.cell? ⟨bx, 5, none⟩ = some (.string ⟨x.mail.envid.toArray⟩) ∧ W.cell? ⟨bx, 6, none⟩ = some (.string ⟨x.mail.text.toArray⟩) ∧ W.cell? ⟨bx, 7, none⟩ = some (.bool x.plain) ∧ W.cell? ⟨bx, 8, none⟩ = some (.slice p2 x.fates.length c2) ∧ W.cell? ⟨bx, 9, none⟩ = some (.slice (some ⟨b1, o1, none⟩) x.jobs.length c3) ∧ W.cell? ⟨b1, o1 + n * 3, none⟩ = some (.string ⟨j.dom.toArray⟩))) (by kernel_rfl) hS0 (fun hHeld => ?_)
      refine wpAnyH_take (i := 0) (oi := ?oia0) (v := ?va0) ?h1a0 (by kernel_rfl) (by kernel_rfl) (by kernel_rfl) ?h2a0 ?hya0 (by assumption) ?resta0
      case h1a0 => (simp only [List.getElem?_toArray, List.getElem?_cons_succ, List.getElem?_cons_zero]; try rfl)
      case h2a0 => exact fun c a w h => HP.out c a _ _ w h
      case hya0 => (refine Or.inl ⟨by rfl, ?_⟩; intro w hSw; (try dsimp only at hSw); go_simp; (try with_reducible rfl))
      try simp only [Act.put, List.setIfInBounds_toArray, List.set_cons_zero, List.set_cons_succ]
      refine wpAnyH_take (i := 1) (oi := ?oia1) (v := ?va1) ?h1a1 (by kernel_rfl) (by kernel_rfl) (by kernel_rfl) ?h2a1 ?hya1 (by assumption) ?resta1
      case h1a1 => (simp only [List.getElem?_toArray, List.getElem?_cons_succ, List.getElem?_cons_zero]; try rfl)
      case h2a1 => exact fun c a w h => HP.out c a _ _ w h
      case hya1 => (refine Or.inl ⟨by rfl, ?_⟩; intro w hSw; (try dsimp only at hSw); go_simp; (try with_reducible rfl))
      try simp only [Act.put, List.setIfInBounds_toArray, List.set_cons_zero, List.set_cons_succ]
      refine wpAnyH_take (i := 2) (oi := ?oia2) (v := ?va2) ?h1a2 (by kernel_rfl) (by kernel_rfl) (by kernel_rfl) ?h2a2 ?hya2 (by assumption) ?resta2
      case h1a2 => (simp only [List.getElem?_toArray, List.getElem?_cons_succ, List.getElem?_cons_zero]; try rfl)
      case h2a2 => exact fun c a w h => HP.out c a _ _ w h
      case hya2 => (refine Or.inl ⟨by rfl, ?_⟩; intro w hSw; (try dsimp only at hSw); go_simp; (try with_reducible rfl))
      try simp only [Act.put, List.setIfInBounds_toArray, List.set_cons_zero, List.set_cons_succ]
      refine wpAnyH_take (i := 3) (oi := ?oia3) (v := ?va3) ?h1a3 (by kernel_rfl) (by kernel_rfl) (by kernel_rfl) ?h2a3 ?hya3 (by assumption) ?resta3
      case h1a3 => (simp only [List.getElem?_toArray, List.getElem?_cons_succ, List.getElem?_cons_zero]; try rfl)
      case h2a3 => exact fun c a w h => HP.out c a _ _ w h
      case hya3 => (refine Or.inl ⟨by rfl, ?_⟩; intro w hSw; (try dsimp only at hSw); go_simp; (try with_reducible rfl))
      try simp only [Act.put, List.setIfInBounds_toArray, List.set_cons_zero, List.set_cons_succ]
      refine wpAnyH_take (i := 4) (oi := ?oia4) (v := ?va4) ?h1a4 (by kernel_rfl) (by kernel_rfl) (by kernel_rfl) ?h2a4 ?hya4 (by assumption) ?resta4
      case h1a4 => (simp only [List.getElem?_toArray, List.getElem?_cons_succ, List.getElem?_cons_zero]; try rfl)
      case h2a4 => exact fun c a w h => HP.out c a _ _ w h
      case hya4 => (refine Or.inl ⟨by rfl, ?_⟩; intro w hSw; (try dsimp only at hSw); go_simp; (try with_reducible rfl))
      try simp only [Act.put, List.setIfInBounds_toArray, List.set_cons_zero, List.set_cons_succ]
      refine wpAnyH_take (i := 5) (oi := ?oia5) (v := ?va5) ?h1a5 (by kernel_rfl) (by kernel_rfl) (by kernel_rfl) ?h2a5 ?hya5 (by assumption) ?resta5
      case h1a5 => (simp only [List.getElem?_toArray, List.getElem?_cons_succ, List.getElem?_cons_zero]; try rfl)
      case h2a5 => exact fun c a w h => HP.out c a _ _ w h
      case hya5 => (refine Or.inl ⟨by rfl, ?_⟩; intro w hSw; (try dsimp only at hSw); go_simp; (try with_reducible rfl))
      try simp only [Act.put, List.setIfInBounds_toArray, List.set_cons_zero, List.set_cons_succ]
      refine wpAnyH_take (i := 6) (oi := ?oia6) (v := ?va6) ?h1a6 (by kernel_rfl) (by kernel_rfl) (by kernel_rfl) ?h2a6 ?hya6 (by assumption) ?resta6
      case h1a6 => (simp only [List.getElem?_toArray, List.getElem?_cons_succ, List.getElem?_cons_zero]; try rfl)
      case h2a6 => exact fun c a w h => HP.out c a _ _ w h
      case hya6 => (refine Or.inl ⟨by rfl, ?_⟩; intro w hSw; (try dsimp only at hSw); go_simp; (try with_reducible rfl))
      try simp only [Act.put, List.setIfInBounds_toArray, List.set_cons_zero, List.set_cons_succ]
      refine wpAnyH_take (i := 7) (oi := ?oia7) (v := ?va7) ?h1a7 (by kernel_rfl) (by kernel_rfl) (by kernel_rfl) ?h2a7 ?hya7 (by assumption) ?resta7
      case h1a7 => (simp only [List.getElem?_toArray, List.getElem?_cons_succ, List.getElem?_cons_zero]; try rfl)
      case h2a7 => exact fun c a w h => HP.out c a _ _ w h
      case hya7 => (refine Or.inl ⟨by rfl, ?_⟩; intro w hSw; (try dsimp only at hSw); go_simp; (try with_reducible rfl))
      try simp only [Act.put, List.setIfInBounds_toArray, List.set_cons_zero, List.set_cons_succ]
      refine wpAnyH_ready (rs := [8]) (by kernel_rfl) (by simp) ?_
      refine AllReadyH.cons (o := ?oia8) ?h1a8 (fun K hK => ?resta8) AllReadyH.nil
      case h1a8 => (simp only [List.getElem?_toArray, List.getElem?_cons_succ, List.getElem?_cons_zero]; try rfl)
      go_simp
      go_at_call 14
      refine hWt.mono ?_
      rintro e w4 ⟨⟨pp, cc, rfl⟩, hb4⟩
      have hS4 := hSk w4 hb4
      refine hK.out _ _ hS4 (fun hHeld => ?_)
      clear hK K
      try simp only [Act.put, List.setIfInBounds_toArray, List.set_cons_zero, List.set_cons_succ]
      refine wpAnyH_ready (rs := [9]) (by kernel_rfl) (by simp) ?_
      refine AllReadyH.cons (o := ?oia9) ?h1a9 (fun K hK => ?resta9) AllReadyH.nil
      case h1a9 => (simp only [List.getElem?_toArray, List.getElem?_cons_succ, List.getElem?_cons_zero]; try rfl)
      go_simp
      refine hK.out _ _ (by assumption) (fun hHeld => ?_)
      clear hK K
      try simp only [Act.put, List.setIfInBounds_toArray, List.set_cons_zero, List.set_cons_succ]
      refine wpAnyH_take (i := 10) (oi := ?oia10) (v := ?va10) ?h1a10 (by kernel_rfl) (by kernel_rfl) (by kernel_rfl) ?h2a10 ?hya10 (by assumption) ?resta10
      case h1a10 => (simp only [List.getElem?_toArray, List.getElem?_cons_succ, List.getElem?_cons_zero]; try rfl)
      case h2a10 => exact fun c a w h => HP.out c a _ _ w h
      case hya10 => (refine Or.inl ⟨by rfl, ?_⟩; intro w hSw; (try dsimp only at hSw); go_simp; (try with_reducible rfl))
      try simp only [Act.put, List.setIfInBounds_toArray, List.set_cons_zero, List.set_cons_succ]
      refine wpAnyH_take (i := 11) (oi := ?oia11) (v := ?va11) ?h1a11 (by kernel_rfl) (by kernel_rfl) (by kernel_rfl) ?h2a11 ?hya11 (by assumption) ?resta11
      case h1a11 => (simp only [List.getElem?_toArray, List.getElem?_cons_succ, List.getElem?_cons_zero]; try rfl)
      case h2a11 => exact fun c a w h => HP.out c a _ _ w h
      case hya11 => (refine Or.inl ⟨by rfl, ?_⟩; intro w hSw; (try dsimp only at hSw); go_simp; (try with_reducible rfl))
      try simp only [Act.put, List.setIfInBounds_toArray, List.set_cons_zero, List.set_cons_succ]
      refine wpAnyH_done (by kernel_rfl) ?_ _
      have H4 := Lib.hid (HB.out.trans (((below_drew wr).trans (hb4.mono (below_drew wr).size)).mono HB.out.size))
      clear hSk hS0 hS4
      clear hWt hb4 x0 x1 x2 x3 x4 x5 x6 x7 x8 x9 z0 k9
      go_wp2
      go_roundw
      case rel => exact ⟨n + 1, by simp, by omega, by rw [HS.out]; rfl, H4.out⟩
      case measure => simp [natI]; omega
    · have hli : ¬ (n : Int) < (x.jobs.length : Int) := by omega
      have hne : n = x.jobs.length := by omega
      have hsum := (good_sum HX.out.2.2.1).1
      rw [← hne] at hsum
      have hbx := (hB.block _ (lt_of_cells HX.out.1)).trans HX.out.1
      unfold entC at hbx
      obtain ⟨-, -, -, -, -, -, -, -, -, k9⟩ := eboxAll hbx
      rw [hsum]
      have HS := Lib.hid hsum
      clear hB hbx hsum hne
      go_wp2_with fail
      generalize hww : wr = w6 at *
      clear hww k9
      go_loopw [27, 29] (fun s27 s29 wr => ∃ q : Nat, s29 = .int .i64 (q : Int) ∧ q ≤ x.fates.length ∧ s27 = .int .i64 (allP x q : Int) ∧ Below W.heap.size W wr) (fun _ s29 _ => x.fates.length - natI s29)
      case atStart => exact ⟨0, rfl, Nat.zero_le _, rfl, HB.out⟩
      case round =>
        obtain ⟨q, rfl, hq, rfl, hB⟩ := hrel
        have HB2 := Lib.hid hB
        have hbx := (hB.block _ (lt_of_cells HX.out.1)).trans HX.out.1
        unfold entC at hbx
        obtain ⟨k0, k1, k2, k3, k4, k5, k6, k7, k8, k9⟩ := eboxAll hbx
        have h4 := allP_le HX.out.2.2.1 q
        by_cases hlq : q < x.fates.length
        · have hlqi : (q : Int) < (x.fates.length : Int) := by omega
          have hw1 : wrap64 ((q : Int) + 1) = (q : Int) + 1 := by unfold wrap64; omega
          have hwa : wrap64 ((allP x q : Int) + 1) = (allP x q : Int) + 1 := by unfold wrap64; omega
          obtain ⟨b1, o1, rfl, hc1⟩ := (HX.out.2.1.below hB).fa.at q hlq
          obtain ⟨v, hv⟩ : ∃ v, x.fates[q]? = some v := ⟨_, List.getElem?_eq_getElem hlq⟩
          have hve : x.fates[q] = v := by rw [List.getElem?_eq_getElem hlq] at hv; injection hv
          have hc1' := hc1 q hlq
          rw [hve] at hc1'
          have z0 : wr.cell? ⟨b1, o1 + q * 2, none⟩ = some (.int .u8 (v.1 : Int)) := hc1' 0 _ rfl
          have hsu := allP_succ hv
          clear hc1 hc1' hve hv hB hbx h4 k0 k1 k2 k3 k4 k5 k6 k7 k9
          by_cases hv0 : v.1 = 0
          · rw [hv0] at z0
            have hz : allP x (q + 1) = allP x q + 1 := by rw [hsu]; simp [waitB, hv0]
            have HZ := Lib.hid hz
            clear hsu hz hv0
            go_wp2
            go_roundw
            case rel => exact ⟨q + 1, by simp, by omega, by rw [HZ.out]; simp [hwa], HB2.out⟩
            case measure => simp [natI]; omega
          · have hz : allP x (q + 1) = allP x q := by rw [hsu]; simp [waitB, hv0]
            have e1 : ((v.1 : Int) == 0) = false := by simp [hv0]
            have e2 : decide ((v.1 : Int) = 0) = false := by simp [hv0]
            have e3 : ¬ (v.1 : Int) = 0 := by omega
            have HZ := Lib.hid hz
            clear hsu hz hv0
            go_wp2
            go_roundw
            case rel => exact ⟨q + 1, by simp, by omega, by rw [HZ.out], HB2.out⟩
            case measure => simp [natI]; omega
        · have hlqi : ¬ (q : Int) < (x.fates.length : Int) := by omega
          have hqe : q = x.fates.length := by omega
          have hse := settled_any x _ _ _ wr (HX.out.2.1.below hB) HX.out.2.2.1.short
          have hst := (good_sum HX.out.2.2.1).2
          rw [← hqe] at hst
          rw [hst] at hse
          unfold entV entC at hse
          rw [← hqe]
          generalize allP x q = T at h4 hse ⊢
          clear hB hbx hst hqe
          by_cases hT0 : T = 0
          · subst hT0
            go_wp2_with fail
            refine hse.mono ?_
            rintro e w5 ⟨rfl, hb5⟩
            have H5 := Lib.hid (HB2.out.trans (hb5.mono HB2.out.size))
            clear hse hb5 k0 k1 k2 k3 k4 k5 k6 k7 k8 k9
            go_wp2
            exact HK.out _ _ _ _ _ _ _ _ _ _ _ _ _ _ _ _ _ _ _ _ _ _ _ _ _ _ _ _ _ _ _ _ _ _ _ _ _ _ _ _ _ _ _ _ _ _ _ _ _ H5.out
          · have e1 : ((T : Int) == 0) = false := by simp [hT0]
            have e2 : decide ((T : Int) = 0) = false := by simp [hT0]
            have e3 : ¬ (T : Int) = 0 := by omega
            have e4 : decide (T = 0) = false := by simp [hT0]
            rw [e4] at hse
            go_wp2_with fail
            refine hse.mono ?_
            rintro e w5 ⟨rfl, hb5⟩
            have H5 := Lib.hid (HB2.out.trans (hb5.mono HB2.out.size))
            clear hse hb5 k0 k1 k2 k3 k4 k5 k6 k7 k8 k9
            go_wp2
            exact HK.out _ _ _ _ _ _ _ _ _ _ _ _ _ _ _ _ _ _ _ _ _ _ _ _ _ _ _ _ _ _ _ _ _ _ _ _ _ _ _ _ _ _ _ _ _ _ _ _ _ H5.out
end Go.Proofs.YtdlpdpelhkgnlaaGreatDoor
