/- Parts of the proof, joined: Nm7, Esum. -/
import Derived.Test.YtlpngibdplnieaaGreatDoorMk
import Derived.Test.YtlpngibdplnieaaGreatDoorMd
import Derived.Test.YtlpngibdplnieaaGreatDoorMc
/- notice.Make: the drawn region of its loop. -/
namespace Go.Proofs.YtlpngibdplnieaaGreatDoor
open Go Go.RowKit Go.Shelf Go.Sort
attribute [local go_sem] bneI

def codeM7 (f : Func) : Code := cB (cA (cA (cB (cB (cA (cA (cB (cA (cB (cB (cB (bodyOf f))))))))))))
theorem infoFl : (Tryz.prog.info? 55).map (fun i => (i.zero, i.size, i.bytes)) = some (some (.agg #[.string ⟨#[]⟩, .string ⟨#[]⟩, .string ⟨#[]⟩]), 3, 48) := by kernel_rfl
theorem own_neB {W : World} {base b : Nat} {T S : TypeId} {k n : Nat} {v : Value} {xs : List Value} {cs : Array Value} (h : W.ownsRow base T k v n xs) (hb : W.heap[b]? = some (.cells cs S (0, 0))) (hT : T ≠ S) : v.ownBlock ≠ some b := by
  rcases h.2 with ⟨rfl, _⟩ | ⟨g, cap, cur, rfl, _, hg, _⟩
  · simp [Value.ownBlock]
  · intro e
    have : g = b := by simpa [Value.ownBlock] using e
    subst this
    rw [hg] at hb
    injection hb with hb
    injection hb with _ hb _
    exact hT hb
def noNot : NotP := ⟨0, [], [], [], 0, []⟩
theorem own_apart2 {W : World} {b1 b2 : Nat} {T S : TypeId} {k k2 n n2 : Nat} {v u : Value} {xs ys : List Value} (h : W.ownsRow b1 T k v n xs) (hu : W.ownsRow b2 S k2 u n2 ys) (hT : T ≠ S) : v.ownBlock = none ∨ v.ownBlock ≠ u.ownBlock := by
  rcases h.2 with ⟨rfl, _⟩ | ⟨g, cap, cur, rfl, _, hg, _⟩
  · exact .inl rfl
  · refine .inr fun e => ?_
    rcases hu.2 with ⟨rfl, _⟩ | ⟨g2, cap2, cur2, rfl, _, hg2, _⟩
    · simp [Value.ownBlock] at e
    · have : g = g2 := by simpa [Value.ownBlock] using e
      subst this
      rw [hg] at hg2
      injection hg2 with hg2
      injection hg2 with _ hg2 _
      exact hT hg2
/-- The entry that is told of, the notice under way, the result, who failed. -/
structure MkB (w0 : World) (x : EntP) (bx bq br : Nat) (n : NotP) (av sv fv jv lv : Value) (bl : List Nat) (W : World) : Prop where
  below : Below w0.heap.size w0 W
  box : W.heap[bx]? = some (.cells (entC x sv fv jv).toArray 28 (0, 0))
  nb : W.heap[bq]? = some (.cells (notC n av).toArray 34 (0, 0))
  ge : w0.heap.size ≤ bq
  res : W.heap[br]? = some (.cells (notC noNot (.slice none 0 0)).toArray 34 (0, 0))
  nr : br ≠ bq
  bad : W.ownsRow w0.heap.size 3 1 lv bl.length (bl.map natV)
theorem MkB.keep {w0 : World} {x : EntP} {bx bq br : Nat} {n : NotP} {av sv fv jv lv : Value} {bl : List Nat} {W X : World} (h : MkB w0 x bx bq br n av sv fv jv lv bl W) (hb : Below W.heap.size W X) : MkB w0 x bx bq br n av sv fv jv lv bl X :=
  ⟨h.below.trans (hb.mono h.below.size), (hb.block _ (lt_of_cells h.box)).trans h.box, (hb.block _ (lt_of_cells h.nb)).trans h.nb, h.ge, (hb.block _ (lt_of_cells h.res)).trans h.res, h.nr, h.bad.kept (grownBy_of_below hb none) (Classical.em _)⟩
theorem MkB.grown {w0 : World} {x : EntP} {bx bq br : Nat} {n : NotP} {av sv fv jv lv : Value} {bl : List Nat} {W X : World} {m : Nat} {ys : List Value} (h : MkB w0 x bx bq br n av sv fv jv lv bl W) (ho : W.ownsRow w0.heap.size 55 3 av m ys) (hg : W.grownBy X av.ownBlock) : MkB w0 x bx bq br n av sv fv jv lv bl X :=
  ⟨h.below.grown hg h.below.size (fun q e => (ho.lt q e).1), (hg.block bx (lt_of_cells h.box) (fun e => own_neB ho h.box (by decide) e.symm)).trans h.box, (hg.block bq (lt_of_cells h.nb) (fun e => own_neB ho h.nb (by decide) e.symm)).trans h.nb, h.ge, (hg.block br (lt_of_cells h.res) (fun e => own_neB ho h.res (by decide) e.symm)).trans h.res, h.nr, h.bad.kept hg (own_apart2 h.bad ho (by decide))⟩
theorem MkB.store {w0 : World} {x : EntP} {bx bq br : Nat} {n : NotP} {av sv fv jv lv : Value} {bl : List Nat} {W : World} (h : MkB w0 x bx bq br n av sv fv jv lv bl W) (v : Value) : MkB w0 x bx bq br n v sv fv jv lv bl (W.setCell ⟨bq, 5, none⟩ v) := by
  have hne : bx ≠ bq := fun e => by
    have h1 := h.box
    rw [e, h.nb] at h1
    injection h1 with h1
    injection h1 with _ h1 _
    exact absurd h1 (by decide)
  refine ⟨h.below.setCell (p := ⟨bq, 5, none⟩) h.ge _, (Below.heap_setCell W ⟨bq, 5, none⟩ v bx hne).trans h.box, ?_, h.ge, (Below.heap_setCell W ⟨bq, 5, none⟩ v br h.nr).trans h.res, h.nr, own_set1 h.bad h.nb (by decide)⟩
  have := heap_setE (off := 5) (v := v) h.nb
  unfold notC at this ⊢
  simpa only [List.setIfInBounds_toArray, List.set_cons_succ, List.set_cons_zero] using this
set_option linter.unusedSimpArgs false in
set_option linter.unusedVariables false in
set_option maxRecDepth 1000000 in
set_option maxHeartbeats 16000000 in
theorem makeR7 {u0 u1 u2 u3 u5 u6 u7 u9 u11 u12 u13 u14 u15 u16 u17 u18 u19 u20 u21 u22 u23 u24 u25 u26 u27 u28 u29 u30 u31 u32 u33 u34 u35 u36 u37 u38 u39 u40 u41 u42 u43 u44 u45 u46 u47 u48 u49 u50 u51 u52 u53 u54 u55 u56 u57 u58 u59 u60 u61 u62 u63 u64 u65 u66 u67 u68 u69 u70 u71 u72 u73 u74 u75 : Value} {ds : List Deferred} (Q : Exit → Act → World → Prop) (w0 : World) (x : EntP) (bx bq br : Nat) (n : NotP) (av sv fv jv lv : Value) (bl : List Nat) (acc : List FlP) (i : Nat) (r : RcP) (f : FaP) (W : World)
    (h : MkB w0 x bx bq br n av sv fv jv lv bl W) (ho : W.ownsRow w0.heap.size 55 3 av acc.length (acc.flatMap flE)) (hx : EntAt w0 x sv fv jv) (hr : x.mail.rcpts[i]? = some r) (hf : x.fates[i]? = some f) (hfl : f.2.length ≤ 1000000) (hacc : acc.length ≤ 1000) (hE : Env w0)
    (hP : ∀ (c : List PanicEntry) (a : Act) (d : Tmp) (v : Value) (w : World), Q (.panic c) (a.put (some d) v) w → Q (.panic c) a w)
    (hK : ∀ (v44 v45 v46 v47 v48 v49 v50 v51 v52 v53 v54 v55 v56 v57 v58 v59 v60 v61 v62 v63 v64 v65 v66 v67 v68 v69 : Value) (W' : World), (∃ v', MkB w0 x bx bq br n v' sv fv jv lv bl W' ∧ W'.ownsRow w0.heap.size 55 3 v' (acc ++ [(⟨r.1, statusOf f.2, f.2⟩ : FlP)]).length ((acc ++ [(⟨r.1, statusOf f.2, f.2⟩ : FlP)]).flatMap flE)) → Q .normal ⟨(u0 :: u1 :: u2 :: u3 :: .pointer (some ⟨bx, 0, none⟩) :: u5 :: u6 :: u7 :: .pointer (some ⟨bq, 0, none⟩) :: u9 :: .int .i64 (i : Int) :: u11 :: u12 :: u13 :: u14 :: u15 :: u16 :: u17 :: u18 :: u19 :: u20 :: u21 :: u22 :: u23 :: u24 :: u25 :: u26 :: u27 :: u28 :: u29 :: u30 :: u31 :: u32 :: u33 :: u34 :: u35 :: u36 :: u37 :: u38 :: u39 :: u40 :: u41 :: u42 :: u43 :: v44 :: v45 :: v46 :: v47 :: v48 :: v49 :: v50 :: v51 :: v52 :: v53 :: v54 :: v55 :: v56 :: v57 :: v58 :: v59 :: v60 :: v61 :: v62 :: v63 :: v64 :: v65 :: v66 :: v67 :: v68 :: v69 :: u70 :: u71 :: u72 :: u73 :: u74 :: u75 :: []).toArray, ds⟩ W') :
    (codeM7 Tryz.f11).wp Tryz.prog Q ⟨(u0 :: u1 :: u2 :: u3 :: .pointer (some ⟨bx, 0, none⟩) :: u5 :: u6 :: u7 :: .pointer (some ⟨bq, 0, none⟩) :: u9 :: .int .i64 (i : Int) :: u11 :: u12 :: u13 :: u14 :: u15 :: u16 :: u17 :: u18 :: u19 :: u20 :: u21 :: u22 :: u23 :: u24 :: u25 :: u26 :: u27 :: u28 :: u29 :: u30 :: u31 :: u32 :: u33 :: u34 :: u35 :: u36 :: u37 :: u38 :: u39 :: u40 :: u41 :: u42 :: u43 :: u44 :: u45 :: u46 :: u47 :: u48 :: u49 :: u50 :: u51 :: u52 :: u53 :: u54 :: u55 :: u56 :: u57 :: u58 :: u59 :: u60 :: u61 :: u62 :: u63 :: u64 :: u65 :: u66 :: u67 :: u68 :: u69 :: u70 :: u71 :: u72 :: u73 :: u74 :: u75 :: []).toArray, ds⟩ W := by
  obtain ⟨i0, hi0, hz0, hz1, hz2⟩ := info_parts infoFl
  obtain ⟨p1, c1, rfl, -⟩ := hx.rc.sh
  obtain ⟨p2, c2, rfl, -⟩ := hx.fa.sh
  obtain ⟨hir, hre⟩ := List.getElem?_eq_some_iff.1 hr
  obtain ⟨hif, hfe⟩ := List.getElem?_eq_some_iff.1 hf
  obtain ⟨b1, o1, rfl, hc1⟩ := hx.rc.at i hir
  obtain ⟨b2, o2, rfl, hc2⟩ := hx.fa.at i hif
  have hc1' := hc1 i hir
  have hc2' := hc2 i hif
  rw [hre] at hc1'
  rw [hfe] at hc2'
  have y1 : w0.cell? ⟨b1, o1 + i * 2, none⟩ = some (.string ⟨r.1.toArray⟩) := hc1' 0 _ rfl
  have y2 : w0.cell? ⟨b2, o2 + i * 2 + 1, none⟩ = some (.string ⟨f.2.toArray⟩) := hc2' 1 _ rfl
  have hiri : (i : Int) < (x.mail.rcpts.length : Int) := by omega
  have hifi : (i : Int) < (x.fates.length : Int) := by omega
  obtain ⟨wd, hwd⟩ : ∃ wd, wd = W.drew := ⟨_, rfl⟩
  have hBD : Below W.heap.size W wd := by rw [hwd]; exact below_drew W
  have hM0 := h.keep hBD
  have hO0 := ho.kept (grownBy_of_below hBD none) (Classical.em _)
  have hSk : ∀ W, Below w0.heap.size w0 W → W.heap[bx]? = some (.cells (entC x (.slice (some ⟨b1, o1, none⟩) x.mail.rcpts.length c1) (.slice (some ⟨b2, o2, none⟩) x.fates.length c2) jv).toArray 28 (0, 0)) → W.cell? ⟨bx, 3, none⟩ = some (.slice (some ⟨b1, o1, none⟩) x.mail.rcpts.length c1) ∧ W.cell? ⟨bx, 8, none⟩ = some (.slice (some ⟨b2, o2, none⟩) x.fates.length c2) ∧ W.cell? ⟨b1, o1 + i * 2, none⟩ = some (.string ⟨r.1.toArray⟩) ∧ W.cell? ⟨b2, o2 + i * 2 + 1, none⟩ = some (.string ⟨f.2.toArray⟩) := fun W' hB hb => by
    unfold entC at hb
    obtain ⟨-, -, -, k3, -, -, -, -, k8, -⟩ := eboxAll hb
    exact ⟨k3, k8, (hB.cell (p := ⟨_, _, none⟩) (cell_lt y1)).trans y1, (hB.cell (p := ⟨_, _, none⟩) (cell_lt y2)).trans y2⟩
  have hS0 := hSk wd hM0.below hM0.box
  have HK := Lib.hid hK
  have HP := Lib.hid hP
  clear hK hP h ho hx hr hf hre hfe hc1 hc2 hc1' hc2' y1 y2 hBD
  conv => arg 2; whnf
  refine wp_region_held_drew (S := (fun W => W.cell? ⟨bx, 3, none⟩ = some (.slice (some ⟨b1, o1, none⟩) x.mail.rcpts.length c1) ∧ W.cell? ⟨bx, 8, none⟩ = some (.slice (some ⟨b2, o2, none⟩) x.fates.length c2) ∧ W.cell? ⟨b1, o1 + i * 2, none⟩ = some (.string ⟨r.1.toArray⟩) ∧ W.cell? ⟨b2, o2 + i * 2 + 1, none⟩ = some (.string ⟨f.2.toArray⟩))) (by kernel_rfl) (by rw [hwd] at hS0; exact hS0) (fun hHeld => ?_)
  rw [← hwd]
  rw [← hwd] at hHeld
  clear hwd
  refine wpAnyH_take (i := 0) (oi := ?oiq10) (v := ?vq10) ?h1q10 (by kernel_rfl) (by kernel_rfl) (by kernel_rfl) ?h2q10 ?hyq10 (by assumption) ?restq10
  case h1q10 => (simp only [List.getElem?_toArray, List.getElem?_cons_succ, List.getElem?_cons_zero]; try rfl)
  case h2q10 => exact fun c a w h => HP.out c a _ _ w h
  case hyq10 => (refine Or.inl ⟨by rfl, ?_⟩; intro w hSw; (try dsimp only at hSw); go_simp; (try with_reducible rfl))
  try simp only [Act.put, List.setIfInBounds_toArray, List.set_cons_zero, List.set_cons_succ]
  refine wpAnyH_take (i := 2) (oi := ?oiq22) (v := ?vq22) ?h1q22 (by kernel_rfl) (by kernel_rfl) (by kernel_rfl) ?h2q22 ?hyq22 (by assumption) ?restq22
  case h1q22 => (simp only [List.getElem?_toArray, List.getElem?_cons_succ, List.getElem?_cons_zero]; try rfl)
  case h2q22 => exact fun c a w h => HP.out c a _ _ w h
  case hyq22 => (refine Or.inl ⟨by rfl, ?_⟩; intro w hSw; (try dsimp only at hSw); go_simp; (try with_reducible rfl))
  try simp only [Act.put, List.setIfInBounds_toArray, List.set_cons_zero, List.set_cons_succ]
  refine wpAnyH_take (i := 3) (oi := ?oiq33) (v := ?vq33) ?h1q33 (by kernel_rfl) (by kernel_rfl) (by kernel_rfl) ?h2q33 ?hyq33 (by assumption) ?restq33
  case h1q33 => (simp only [List.getElem?_toArray, List.getElem?_cons_succ, List.getElem?_cons_zero]; try rfl)
  case h2q33 => exact fun c a w h => HP.out c a _ _ w h
  case hyq33 => (refine Or.inl ⟨by rfl, ?_⟩; intro w hSw; (try dsimp only at hSw); go_simp; (try with_reducible rfl))
  try simp only [Act.put, List.setIfInBounds_toArray, List.set_cons_zero, List.set_cons_succ]
  refine wpAnyH_take (i := 4) (oi := ?oiq44) (v := ?vq44) ?h1q44 (by kernel_rfl) (by kernel_rfl) (by kernel_rfl) ?h2q44 ?hyq44 (by assumption) ?restq44
  case h1q44 => (simp only [List.getElem?_toArray, List.getElem?_cons_succ, List.getElem?_cons_zero]; try rfl)
  case h2q44 => exact fun c a w h => HP.out c a _ _ w h
  case hyq44 => (refine Or.inl ⟨by rfl, ?_⟩; intro w hSw; (try dsimp only at hSw); go_simp; (try with_reducible rfl))
  try simp only [Act.put, List.setIfInBounds_toArray, List.set_cons_zero, List.set_cons_succ]
  refine wpAnyH_take (i := 5) (oi := ?oiq55) (v := ?vq55) ?h1q55 (by kernel_rfl) (by kernel_rfl) (by kernel_rfl) ?h2q55 ?hyq55 (by assumption) ?restq55
  case h1q55 => (simp only [List.getElem?_toArray, List.getElem?_cons_succ, List.getElem?_cons_zero]; try rfl)
  case h2q55 => exact fun c a w h => HP.out c a _ _ w h
  case hyq55 => (refine Or.inl ⟨by rfl, ?_⟩; intro w hSw; (try dsimp only at hSw); go_simp; (try with_reducible rfl))
  try simp only [Act.put, List.setIfInBounds_toArray, List.set_cons_zero, List.set_cons_succ]
  refine wpAnyH_take (i := 6) (oi := ?oiq66) (v := ?vq66) ?h1q66 (by kernel_rfl) (by kernel_rfl) (by kernel_rfl) ?h2q66 ?hyq66 (by assumption) ?restq66
  case h1q66 => (simp only [List.getElem?_toArray, List.getElem?_cons_succ, List.getElem?_cons_zero]; try rfl)
  case h2q66 => exact fun c a w h => HP.out c a _ _ w h
  case hyq66 => (refine Or.inl ⟨by rfl, ?_⟩; intro w hSw; (try dsimp only at hSw); go_simp; (try with_reducible rfl))
  try simp only [Act.put, List.setIfInBounds_toArray, List.set_cons_zero, List.set_cons_succ]
  refine wpAnyH_take (i := 7) (oi := ?oiq77) (v := ?vq77) ?h1q77 (by kernel_rfl) (by kernel_rfl) (by kernel_rfl) ?h2q77 ?hyq77 (by assumption) ?restq77
  case h1q77 => (simp only [List.getElem?_toArray, List.getElem?_cons_succ, List.getElem?_cons_zero]; try rfl)
  case h2q77 => exact fun c a w h => HP.out c a _ _ w h
  case hyq77 => (refine Or.inl ⟨by rfl, ?_⟩; intro w hSw; (try dsimp only at hSw); go_simp; (try with_reducible rfl))
  try simp only [Act.put, List.setIfInBounds_toArray, List.set_cons_zero, List.set_cons_succ]
  refine wpAnyH_take (i := 8) (oi := ?oiq88) (v := ?vq88) ?h1q88 (by kernel_rfl) (by kernel_rfl) (by kernel_rfl) ?h2q88 ?hyq88 (by assumption) ?restq88
  case h1q88 => (simp only [List.getElem?_toArray, List.getElem?_cons_succ, List.getElem?_cons_zero]; try rfl)
  case h2q88 => exact fun c a w h => HP.out c a _ _ w h
  case hyq88 => (refine Or.inl ⟨by rfl, ?_⟩; intro w hSw; (try dsimp only at hSw); go_simp; (try with_reducible rfl))
  try simp only [Act.put, List.setIfInBounds_toArray, List.set_cons_zero, List.set_cons_succ]
  refine wpAnyH_take (i := 9) (oi := ?oiq99) (v := ?vq99) ?h1q99 (by kernel_rfl) (by kernel_rfl) (by kernel_rfl) ?h2q99 ?hyq99 (by assumption) ?restq99
  case h1q99 => (simp only [List.getElem?_toArray, List.getElem?_cons_succ, List.getElem?_cons_zero]; try rfl)
  case h2q99 => exact fun c a w h => HP.out c a _ _ w h
  case hyq99 => (refine Or.inl ⟨by rfl, ?_⟩; intro w hSw; (try dsimp only at hSw); go_simp; (try with_reducible rfl))
  try simp only [Act.put, List.setIfInBounds_toArray, List.set_cons_zero, List.set_cons_succ]
  refine wpAnyH_take (i := 10) (oi := ?oiq1010) (v := ?vq1010) ?h1q1010 (by kernel_rfl) (by kernel_rfl) (by kernel_rfl) ?h2q1010 ?hyq1010 (by assumption) ?restq1010
  case h1q1010 => (simp only [List.getElem?_toArray, List.getElem?_cons_succ, List.getElem?_cons_zero]; try rfl)
  case h2q1010 => exact fun c a w h => HP.out c a _ _ w h
  case hyq1010 => (refine Or.inl ⟨by rfl, ?_⟩; intro w hSw; (try dsimp only at hSw); go_simp; (try with_reducible rfl))
  try simp only [Act.put, List.setIfInBounds_toArray, List.set_cons_zero, List.set_cons_succ]
  refine wpAnyH_take (i := 11) (oi := ?oiq1111) (v := ?vq1111) ?h1q1111 (by kernel_rfl) (by kernel_rfl) (by kernel_rfl) ?h2q1111 ?hyq1111 (by assumption) ?restq1111
  case h1q1111 => (simp only [List.getElem?_toArray, List.getElem?_cons_succ, List.getElem?_cons_zero]; try rfl)
  case h2q1111 => exact fun c a w h => HP.out c a _ _ w h
  case hyq1111 => (refine Or.inl ⟨by rfl, ?_⟩; intro w hSw; (try dsimp only at hSw); go_simp; (try with_reducible rfl))
  try simp only [Act.put, List.setIfInBounds_toArray, List.set_cons_zero, List.set_cons_succ]
  refine wpAnyH_take (i := 12) (oi := ?oiq1212) (v := ?vq1212) ?h1q1212 (by kernel_rfl) (by kernel_rfl) (by kernel_rfl) ?h2q1212 ?hyq1212 (by assumption) ?restq1212
  case h1q1212 => (simp only [List.getElem?_toArray, List.getElem?_cons_succ, List.getElem?_cons_zero]; try rfl)
  case h2q1212 => exact fun c a w h => HP.out c a _ _ w h
  case hyq1212 => (refine Or.inl ⟨by rfl, ?_⟩; intro w hSw; (try dsimp only at hSw); go_simp; (try with_reducible rfl))
  try simp only [Act.put, List.setIfInBounds_toArray, List.set_cons_zero, List.set_cons_succ]
  refine wpAnyH_take (i := 13) (oi := ?oiq1313) (v := ?vq1313) ?h1q1313 (by kernel_rfl) (by kernel_rfl) (by kernel_rfl) ?h2q1313 ?hyq1313 (by assumption) ?restq1313
  case h1q1313 => (simp only [List.getElem?_toArray, List.getElem?_cons_succ, List.getElem?_cons_zero]; try rfl)
  case h2q1313 => exact fun c a w h => HP.out c a _ _ w h
  case hyq1313 => (refine Or.inl ⟨by rfl, ?_⟩; intro w hSw; (try dsimp only at hSw); go_simp; (try with_reducible rfl))
  try simp only [Act.put, List.setIfInBounds_toArray, List.set_cons_zero, List.set_cons_succ]
  refine wpAnyH_take (i := 14) (oi := ?oiq1414) (v := ?vq1414) ?h1q1414 (by kernel_rfl) (by kernel_rfl) (by kernel_rfl) ?h2q1414 ?hyq1414 (by assumption) ?restq1414
  case h1q1414 => (simp only [List.getElem?_toArray, List.getElem?_cons_succ, List.getElem?_cons_zero]; try rfl)
  case h2q1414 => exact fun c a w h => HP.out c a _ _ w h
  case hyq1414 => (refine Or.inl ⟨by rfl, ?_⟩; intro w hSw; (try dsimp only at hSw); go_simp; (try with_reducible rfl))
  try simp only [Act.put, List.setIfInBounds_toArray, List.set_cons_zero, List.set_cons_succ]
  refine wpAnyH_take (i := 16) (oi := ?oiq1516) (v := ?vq1516) ?h1q1516 (by kernel_rfl) (by kernel_rfl) (by kernel_rfl) ?h2q1516 ?hyq1516 (by assumption) ?restq1516
  case h1q1516 => (simp only [List.getElem?_toArray, List.getElem?_cons_succ, List.getElem?_cons_zero]; try rfl)
  case h2q1516 => exact fun c a w h => HP.out c a _ _ w h
  case hyq1516 => (refine Or.inl ⟨by rfl, ?_⟩; intro w hSw; (try dsimp only at hSw); go_simp; (try with_reducible rfl))
  try simp only [Act.put, List.setIfInBounds_toArray, List.set_cons_zero, List.set_cons_succ]
  refine wpAnyH_take (i := 17) (oi := ?oiq1617) (v := ?vq1617) ?h1q1617 (by kernel_rfl) (by kernel_rfl) (by kernel_rfl) ?h2q1617 ?hyq1617 (by assumption) ?restq1617
  case h1q1617 => (simp only [List.getElem?_toArray, List.getElem?_cons_succ, List.getElem?_cons_zero]; try rfl)
  case h2q1617 => exact fun c a w h => HP.out c a _ _ w h
  case hyq1617 => (refine Or.inl ⟨by rfl, ?_⟩; intro w hSw; (try dsimp only at hSw); go_simp; (try with_reducible rfl))
  try simp only [Act.put, List.setIfInBounds_toArray, List.set_cons_zero, List.set_cons_succ]
  refine wpAnyH_take (i := 18) (oi := ?oiq1718) (v := ?vq1718) ?h1q1718 (by kernel_rfl) (by kernel_rfl) (by kernel_rfl) ?h2q1718 ?hyq1718 (by assumption) ?restq1718
  case h1q1718 => (simp only [List.getElem?_toArray, List.getElem?_cons_succ, List.getElem?_cons_zero]; try rfl)
  case h2q1718 => exact fun c a w h => HP.out c a _ _ w h
  case hyq1718 => (refine Or.inl ⟨by rfl, ?_⟩; intro w hSw; (try dsimp only at hSw); go_simp; (try with_reducible rfl))
  try simp only [Act.put, List.setIfInBounds_toArray, List.set_cons_zero, List.set_cons_succ]
  refine wpAnyH_take (i := 19) (oi := ?oiq1819) (v := ?vq1819) ?h1q1819 (by kernel_rfl) (by kernel_rfl) (by kernel_rfl) ?h2q1819 ?hyq1819 (by assumption) ?restq1819
  case h1q1819 => (simp only [List.getElem?_toArray, List.getElem?_cons_succ, List.getElem?_cons_zero]; try rfl)
  case h2q1819 => exact fun c a w h => HP.out c a _ _ w h
  case hyq1819 => (refine Or.inl ⟨by rfl, ?_⟩; intro w hSw; (try dsimp only at hSw); go_simp; (try with_reducible rfl))
  try simp only [Act.put, List.setIfInBounds_toArray, List.set_cons_zero, List.set_cons_succ]
  refine wpAnyH_take (i := 20) (oi := ?oiq1920) (v := ?vq1920) ?h1q1920 (by kernel_rfl) (by kernel_rfl) (by kernel_rfl) ?h2q1920 ?hyq1920 (by assumption) ?restq1920
  case h1q1920 => (simp only [List.getElem?_toArray, List.getElem?_cons_succ, List.getElem?_cons_zero]; try rfl)
  case h2q1920 => exact fun c a w h => HP.out c a _ _ w h
  case hyq1920 => (refine Or.inl ⟨by rfl, ?_⟩; intro w hSw; (try dsimp only at hSw); go_simp; (try with_reducible rfl))
  try simp only [Act.put, List.setIfInBounds_toArray, List.set_cons_zero, List.set_cons_succ]
  refine wpAnyH_take (i := 21) (oi := ?oiq2021) (v := ?vq2021) ?h1q2021 (by kernel_rfl) (by kernel_rfl) (by kernel_rfl) ?h2q2021 ?hyq2021 (by assumption) ?restq2021
  case h1q2021 => (simp only [List.getElem?_toArray, List.getElem?_cons_succ, List.getElem?_cons_zero]; try rfl)
  case h2q2021 => exact fun c a w h => HP.out c a _ _ w h
  case hyq2021 => (refine Or.inl ⟨by rfl, ?_⟩; intro w hSw; (try dsimp only at hSw); go_simp; (try with_reducible rfl))
  try simp only [Act.put, List.setIfInBounds_toArray, List.set_cons_zero, List.set_cons_succ]
  refine wpAnyH_ready (rs := [1, 15]) (by kernel_rfl) (by simp) ?_
  refine AllReadyH.cons (o := ?on21) ?h1n21 (fun K hK => ?armn21) (AllReadyH.cons (o := ?on22) ?h1n22 (fun K hK => ?armn22) AllReadyH.nil)
  case h1n21 => (simp only [List.getElem?_toArray, List.getElem?_cons_succ, List.getElem?_cons_zero]; try rfl)
  case h1n22 => (simp only [List.getElem?_toArray, List.getElem?_cons_succ, List.getElem?_cons_zero]; try rfl)
  case armn21 =>
    have c23 : wd.cell? ⟨bq, 5, none⟩ = some av := by have := hM0.nb; unfold notC at this; simp [World.cell?, this]
    go_simp
    clear c23
    refine hK.out _ _ (hSk _ hM0.below hM0.box) (fun hHeld => ?_)
    clear hK K
    try simp only [Act.put, List.setIfInBounds_toArray, List.set_cons_zero, List.set_cons_succ]
    refine wpAnyH_ready (rs := [15]) (by kernel_rfl) (by simp) ?_
    refine AllReadyH.cons (o := ?on24) ?h1n24 (fun K hK => ?armn24) AllReadyH.nil
    case h1n24 => (simp only [List.getElem?_toArray, List.getElem?_cons_succ, List.getElem?_cons_zero]; try rfl)
    case armn24 =>
      go_simp
      go_at_call 34
      refine (statusOf_any f.2 wd hfl (hE.keep hM0.below)).mono ?_
      rintro e y25 ⟨rfl, hby25⟩
      have my25 := hM0.keep hby25
      have oy25 := (hO0).kept (grownBy_of_below hby25 none) (Classical.em _)
      clear hby25
      refine hK.out _ _ (hSk _ my25.below my25.box) (fun hHeld => ?_)
      clear hK K
      try simp only [Act.put, List.setIfInBounds_toArray, List.set_cons_zero, List.set_cons_succ]
      refine wpAnyH_take (i := 22) (oi := ?oiq2622) (v := ?vq2622) ?h1q2622 (by kernel_rfl) (by kernel_rfl) (by kernel_rfl) ?h2q2622 ?hyq2622 (by assumption) ?restq2622
      case h1q2622 => (simp only [List.getElem?_toArray, List.getElem?_cons_succ, List.getElem?_cons_zero]; try rfl)
      case h2q2622 => exact fun c a w h => HP.out c a _ _ w h
      case hyq2622 => (refine Or.inl ⟨by rfl, ?_⟩; intro w hSw; (try dsimp only at hSw); go_simp; (try with_reducible rfl))
      try simp only [Act.put, List.setIfInBounds_toArray, List.set_cons_zero, List.set_cons_succ]
      refine wpAnyH_ready (rs := [23]) (by kernel_rfl) (by simp) ?_
      refine AllReadyH.cons (o := ?on27) ?h1n27 (fun K hK => ?armn27) AllReadyH.nil
      case h1n27 => (simp only [List.getElem?_toArray, List.getElem?_cons_succ, List.getElem?_cons_zero]; try rfl)
      case armn27 =>
        go_simp
        have hal : Below y25.heap.size y25 (y25.alloc (.cells #[.string ⟨r.1.toArray⟩, .string ⟨(statusOf f.2).toArray⟩, .string ⟨f.2.toArray⟩] 55)) := (Below.refl _ _).alloc (Nat.le_refl _) _
        have hnews : ∀ j u, ([.string ⟨r.1.toArray⟩, .string ⟨(statusOf f.2).toArray⟩, .string ⟨f.2.toArray⟩] : List Value)[j]? = some u → (y25.alloc (.cells #[.string ⟨r.1.toArray⟩, .string ⟨(statusOf f.2).toArray⟩, .string ⟨f.2.toArray⟩] 55)).cell? ((⟨y25.heap.size, 0, none⟩ : Addr).add j) = some u := cell_list (cs := [.string ⟨r.1.toArray⟩, .string ⟨(statusOf f.2).toArray⟩, .string ⟨f.2.toArray⟩]) rfl
        generalize hgy28 : y25.alloc (.cells #[.string ⟨r.1.toArray⟩, .string ⟨(statusOf f.2).toArray⟩, .string ⟨f.2.toArray⟩] 55) = y28 at hal hnews ⊢
        obtain ⟨bf, hbf⟩ : ∃ bf, bf = y25.heap.size := ⟨_, rfl⟩
        rw [← hbf] at hnews ⊢
        clear hbf
        have my28 := my25.keep hal
        have oy28 := (oy25).kept (grownBy_of_below hal none) (Classical.em _)
        clear hal
        refine hK.out _ _ (hSk _ my28.below my28.box) (fun hHeld => ?_)
        clear hK K
        try simp only [Act.put, List.setIfInBounds_toArray, List.set_cons_zero, List.set_cons_succ]
        refine wpAnyH_ready (rs := [24]) (by kernel_rfl) (by simp) ?_
        refine AllReadyH.cons (o := ?on29) ?h1n29 (fun K hK => ?armn29) AllReadyH.nil
        case h1n29 => (simp only [List.getElem?_toArray, List.getElem?_cons_succ, List.getElem?_cons_zero]; try rfl)
        case armn29 =>
          refine step_append_any (P := Tryz.prog) rfl _ _ _ rfl w0.heap.size 55 i0 (.agg #[.string ⟨#[]⟩, .string ⟨#[]⟩, .string ⟨#[]⟩]) 3 48 Tryz.underlying32 hi0 hz0 hz1 hz2 rfl (by decide) av acc.length (acc.flatMap flE) rfl oy28 (bf + 1) _ 1 [.string ⟨r.1.toArray⟩, .string ⟨(statusOf f.2).toArray⟩, .string ⟨f.2.toArray⟩] rfl (.inr ⟨⟨bf, 0, none⟩, 1, rfl, fun _ => Nat.lt_succ_self _, hnews⟩) rfl (by simp [Value.oneCell']) (by unfold maxLen; omega) (by omega) my28.below.size ?_
          intro v' Y hown' hgrow hge hor
          clear hge hor
          have hMY := my28.grown oy28 hgrow
          refine hK.out _ _ (hSk _ hMY.below hMY.box) (fun hHeld => ?_)
          clear hK K
          try simp only [Act.put, List.setIfInBounds_toArray, List.set_cons_zero, List.set_cons_succ]
          refine wpAnyH_take (i := 25) (oi := ?oiq3025) (v := ?vq3025) ?h1q3025 (by kernel_rfl) (by kernel_rfl) (by kernel_rfl) ?h2q3025 ?hyq3025 (by assumption) ?restq3025
          case h1q3025 => (simp only [List.getElem?_toArray, List.getElem?_cons_succ, List.getElem?_cons_zero]; try rfl)
          case h2q3025 => exact fun c a w h => HP.out c a _ _ w h
          case hyq3025 => (refine Or.inl ⟨by rfl, ?_⟩; intro w hSw; (try dsimp only at hSw); go_simp; (try with_reducible rfl))
          try simp only [Act.put, List.setIfInBounds_toArray, List.set_cons_zero, List.set_cons_succ]
          refine wpAnyH_ready (rs := [26]) (by kernel_rfl) (by simp) ?_
          refine AllReadyH.cons (o := ?on31) ?h1n31 (fun K hK => ?armn31) AllReadyH.nil
          case h1n31 => (simp only [List.getElem?_toArray, List.getElem?_cons_succ, List.getElem?_cons_zero]; try rfl)
          case armn31 =>
            have c5 : Y.cell? ⟨bq, 5, none⟩ = some av := by have := hMY.nb; unfold notC at this; simp [World.cell?, this]
            have f5 := efroz hMY.nb 5
            obtain ⟨v'p, v'c, rfl⟩ := own_shape hown'
            go_simp
            clear c5 f5
            have hMZ := hMY.store (.slice v'p (acc.length + 1) v'c)
            have hOZ := own_set1 (u := .slice v'p (acc.length + 1) v'c) (o := 5) hown' hMY.nb (by decide)
            generalize hw9 : Y.setCell ⟨bq, 5, none⟩ (.slice v'p (acc.length + 1) v'c) = w9 at hMZ hOZ ⊢
            refine hK.out _ _ (hSk _ hMZ.below hMZ.box) (fun hHeld => ?_)
            clear hK K
            try simp only [Act.put, List.setIfInBounds_toArray, List.set_cons_zero, List.set_cons_succ]
            refine wpAnyH_done (by kernel_rfl) ?_ _
            have hOZ2 : w9.ownsRow w0.heap.size 55 3 (.slice v'p (acc.length + 1) v'c) (acc ++ [(⟨r.1, statusOf f.2, f.2⟩ : FlP)]).length ((acc ++ [(⟨r.1, statusOf f.2, f.2⟩ : FlP)]).flatMap flE) := by
              rw [List.length_append, List.flatMap_append]
              exact hOZ
            have HZ := Lib.hid (And.intro hMZ hOZ2)
            go_simp
            exact HK.out _ _ _ _ _ _ _ _ _ _ _ _ _ _ _ _ _ _ _ _ _ _ _ _ _ _ _ ⟨_, HZ.out.1, HZ.out.2⟩
  case armn22 =>
    go_simp
    go_at_call 34
    refine (statusOf_any f.2 wd hfl (hE.keep hM0.below)).mono ?_
    rintro e y32 ⟨rfl, hby32⟩
    have my32 := hM0.keep hby32
    have oy32 := (hO0).kept (grownBy_of_below hby32 none) (Classical.em _)
    clear hby32
    refine hK.out _ _ (hSk _ my32.below my32.box) (fun hHeld => ?_)
    clear hK K
    try simp only [Act.put, List.setIfInBounds_toArray, List.set_cons_zero, List.set_cons_succ]
    refine wpAnyH_take (i := 22) (oi := ?oiq3322) (v := ?vq3322) ?h1q3322 (by kernel_rfl) (by kernel_rfl) (by kernel_rfl) ?h2q3322 ?hyq3322 (by assumption) ?restq3322
    case h1q3322 => (simp only [List.getElem?_toArray, List.getElem?_cons_succ, List.getElem?_cons_zero]; try rfl)
    case h2q3322 => exact fun c a w h => HP.out c a _ _ w h
    case hyq3322 => (refine Or.inl ⟨by rfl, ?_⟩; intro w hSw; (try dsimp only at hSw); go_simp; (try with_reducible rfl))
    try simp only [Act.put, List.setIfInBounds_toArray, List.set_cons_zero, List.set_cons_succ]
    refine wpAnyH_ready (rs := [1, 23]) (by kernel_rfl) (by simp) ?_
    refine AllReadyH.cons (o := ?on34) ?h1n34 (fun K hK => ?armn34) (AllReadyH.cons (o := ?on35) ?h1n35 (fun K hK => ?armn35) AllReadyH.nil)
    case h1n34 => (simp only [List.getElem?_toArray, List.getElem?_cons_succ, List.getElem?_cons_zero]; try rfl)
    case h1n35 => (simp only [List.getElem?_toArray, List.getElem?_cons_succ, List.getElem?_cons_zero]; try rfl)
    case armn34 =>
      have c36 : y32.cell? ⟨bq, 5, none⟩ = some av := by have := my32.nb; unfold notC at this; simp [World.cell?, this]
      go_simp
      clear c36
      refine hK.out _ _ (hSk _ my32.below my32.box) (fun hHeld => ?_)
      clear hK K
      try simp only [Act.put, List.setIfInBounds_toArray, List.set_cons_zero, List.set_cons_succ]
      refine wpAnyH_ready (rs := [23]) (by kernel_rfl) (by simp) ?_
      refine AllReadyH.cons (o := ?on37) ?h1n37 (fun K hK => ?armn37) AllReadyH.nil
      case h1n37 => (simp only [List.getElem?_toArray, List.getElem?_cons_succ, List.getElem?_cons_zero]; try rfl)
      case armn37 =>
        go_simp
        have hal : Below y32.heap.size y32 (y32.alloc (.cells #[.string ⟨r.1.toArray⟩, .string ⟨(statusOf f.2).toArray⟩, .string ⟨f.2.toArray⟩] 55)) := (Below.refl _ _).alloc (Nat.le_refl _) _
        have hnews : ∀ j u, ([.string ⟨r.1.toArray⟩, .string ⟨(statusOf f.2).toArray⟩, .string ⟨f.2.toArray⟩] : List Value)[j]? = some u → (y32.alloc (.cells #[.string ⟨r.1.toArray⟩, .string ⟨(statusOf f.2).toArray⟩, .string ⟨f.2.toArray⟩] 55)).cell? ((⟨y32.heap.size, 0, none⟩ : Addr).add j) = some u := cell_list (cs := [.string ⟨r.1.toArray⟩, .string ⟨(statusOf f.2).toArray⟩, .string ⟨f.2.toArray⟩]) rfl
        generalize hgy38 : y32.alloc (.cells #[.string ⟨r.1.toArray⟩, .string ⟨(statusOf f.2).toArray⟩, .string ⟨f.2.toArray⟩] 55) = y38 at hal hnews ⊢
        obtain ⟨bf, hbf⟩ : ∃ bf, bf = y32.heap.size := ⟨_, rfl⟩
        rw [← hbf] at hnews ⊢
        clear hbf
        have my38 := my32.keep hal
        have oy38 := (oy32).kept (grownBy_of_below hal none) (Classical.em _)
        clear hal
        refine hK.out _ _ (hSk _ my38.below my38.box) (fun hHeld => ?_)
        clear hK K
        try simp only [Act.put, List.setIfInBounds_toArray, List.set_cons_zero, List.set_cons_succ]
        refine wpAnyH_ready (rs := [24]) (by kernel_rfl) (by simp) ?_
        refine AllReadyH.cons (o := ?on39) ?h1n39 (fun K hK => ?armn39) AllReadyH.nil
        case h1n39 => (simp only [List.getElem?_toArray, List.getElem?_cons_succ, List.getElem?_cons_zero]; try rfl)
        case armn39 =>
          refine step_append_any (P := Tryz.prog) rfl _ _ _ rfl w0.heap.size 55 i0 (.agg #[.string ⟨#[]⟩, .string ⟨#[]⟩, .string ⟨#[]⟩]) 3 48 Tryz.underlying32 hi0 hz0 hz1 hz2 rfl (by decide) av acc.length (acc.flatMap flE) rfl oy38 (bf + 1) _ 1 [.string ⟨r.1.toArray⟩, .string ⟨(statusOf f.2).toArray⟩, .string ⟨f.2.toArray⟩] rfl (.inr ⟨⟨bf, 0, none⟩, 1, rfl, fun _ => Nat.lt_succ_self _, hnews⟩) rfl (by simp [Value.oneCell']) (by unfold maxLen; omega) (by omega) my38.below.size ?_
          intro v' Y hown' hgrow hge hor
          clear hge hor
          have hMY := my38.grown oy38 hgrow
          refine hK.out _ _ (hSk _ hMY.below hMY.box) (fun hHeld => ?_)
          clear hK K
          try simp only [Act.put, List.setIfInBounds_toArray, List.set_cons_zero, List.set_cons_succ]
          refine wpAnyH_take (i := 25) (oi := ?oiq4025) (v := ?vq4025) ?h1q4025 (by kernel_rfl) (by kernel_rfl) (by kernel_rfl) ?h2q4025 ?hyq4025 (by assumption) ?restq4025
          case h1q4025 => (simp only [List.getElem?_toArray, List.getElem?_cons_succ, List.getElem?_cons_zero]; try rfl)
          case h2q4025 => exact fun c a w h => HP.out c a _ _ w h
          case hyq4025 => (refine Or.inl ⟨by rfl, ?_⟩; intro w hSw; (try dsimp only at hSw); go_simp; (try with_reducible rfl))
          try simp only [Act.put, List.setIfInBounds_toArray, List.set_cons_zero, List.set_cons_succ]
          refine wpAnyH_ready (rs := [26]) (by kernel_rfl) (by simp) ?_
          refine AllReadyH.cons (o := ?on41) ?h1n41 (fun K hK => ?armn41) AllReadyH.nil
          case h1n41 => (simp only [List.getElem?_toArray, List.getElem?_cons_succ, List.getElem?_cons_zero]; try rfl)
          case armn41 =>
            have c5 : Y.cell? ⟨bq, 5, none⟩ = some av := by have := hMY.nb; unfold notC at this; simp [World.cell?, this]
            have f5 := efroz hMY.nb 5
            obtain ⟨v'p, v'c, rfl⟩ := own_shape hown'
            go_simp
            clear c5 f5
            have hMZ := hMY.store (.slice v'p (acc.length + 1) v'c)
            have hOZ := own_set1 (u := .slice v'p (acc.length + 1) v'c) (o := 5) hown' hMY.nb (by decide)
            generalize hw9 : Y.setCell ⟨bq, 5, none⟩ (.slice v'p (acc.length + 1) v'c) = w9 at hMZ hOZ ⊢
            refine hK.out _ _ (hSk _ hMZ.below hMZ.box) (fun hHeld => ?_)
            clear hK K
            try simp only [Act.put, List.setIfInBounds_toArray, List.set_cons_zero, List.set_cons_succ]
            refine wpAnyH_done (by kernel_rfl) ?_ _
            have hOZ2 : w9.ownsRow w0.heap.size 55 3 (.slice v'p (acc.length + 1) v'c) (acc ++ [(⟨r.1, statusOf f.2, f.2⟩ : FlP)]).length ((acc ++ [(⟨r.1, statusOf f.2, f.2⟩ : FlP)]).flatMap flE) := by
              rw [List.length_append, List.flatMap_append]
              exact hOZ
            have HZ := Lib.hid (And.intro hMZ hOZ2)
            go_simp
            exact HK.out _ _ _ _ _ _ _ _ _ _ _ _ _ _ _ _ _ _ _ _ _ _ _ _ _ _ _ ⟨_, HZ.out.1, HZ.out.2⟩
    case armn35 =>
      go_simp
      have hal : Below y32.heap.size y32 (y32.alloc (.cells #[.string ⟨r.1.toArray⟩, .string ⟨(statusOf f.2).toArray⟩, .string ⟨f.2.toArray⟩] 55)) := (Below.refl _ _).alloc (Nat.le_refl _) _
      have hnews : ∀ j u, ([.string ⟨r.1.toArray⟩, .string ⟨(statusOf f.2).toArray⟩, .string ⟨f.2.toArray⟩] : List Value)[j]? = some u → (y32.alloc (.cells #[.string ⟨r.1.toArray⟩, .string ⟨(statusOf f.2).toArray⟩, .string ⟨f.2.toArray⟩] 55)).cell? ((⟨y32.heap.size, 0, none⟩ : Addr).add j) = some u := cell_list (cs := [.string ⟨r.1.toArray⟩, .string ⟨(statusOf f.2).toArray⟩, .string ⟨f.2.toArray⟩]) rfl
      generalize hgy42 : y32.alloc (.cells #[.string ⟨r.1.toArray⟩, .string ⟨(statusOf f.2).toArray⟩, .string ⟨f.2.toArray⟩] 55) = y42 at hal hnews ⊢
      obtain ⟨bf, hbf⟩ : ∃ bf, bf = y32.heap.size := ⟨_, rfl⟩
      rw [← hbf] at hnews ⊢
      clear hbf
      have my42 := my32.keep hal
      have oy42 := (oy32).kept (grownBy_of_below hal none) (Classical.em _)
      clear hal
      refine hK.out _ _ (hSk _ my42.below my42.box) (fun hHeld => ?_)
      clear hK K
      try simp only [Act.put, List.setIfInBounds_toArray, List.set_cons_zero, List.set_cons_succ]
      refine wpAnyH_ready (rs := [1]) (by kernel_rfl) (by simp) ?_
      refine AllReadyH.cons (o := ?on43) ?h1n43 (fun K hK => ?armn43) AllReadyH.nil
      case h1n43 => (simp only [List.getElem?_toArray, List.getElem?_cons_succ, List.getElem?_cons_zero]; try rfl)
      case armn43 =>
        have c44 : y42.cell? ⟨bq, 5, none⟩ = some av := by have := my42.nb; unfold notC at this; simp [World.cell?, this]
        go_simp
        clear c44
        refine hK.out _ _ (hSk _ my42.below my42.box) (fun hHeld => ?_)
        clear hK K
        try simp only [Act.put, List.setIfInBounds_toArray, List.set_cons_zero, List.set_cons_succ]
        refine wpAnyH_ready (rs := [24]) (by kernel_rfl) (by simp) ?_
        refine AllReadyH.cons (o := ?on45) ?h1n45 (fun K hK => ?armn45) AllReadyH.nil
        case h1n45 => (simp only [List.getElem?_toArray, List.getElem?_cons_succ, List.getElem?_cons_zero]; try rfl)
        case armn45 =>
          refine step_append_any (P := Tryz.prog) rfl _ _ _ rfl w0.heap.size 55 i0 (.agg #[.string ⟨#[]⟩, .string ⟨#[]⟩, .string ⟨#[]⟩]) 3 48 Tryz.underlying32 hi0 hz0 hz1 hz2 rfl (by decide) av acc.length (acc.flatMap flE) rfl oy42 (bf + 1) _ 1 [.string ⟨r.1.toArray⟩, .string ⟨(statusOf f.2).toArray⟩, .string ⟨f.2.toArray⟩] rfl (.inr ⟨⟨bf, 0, none⟩, 1, rfl, fun _ => Nat.lt_succ_self _, hnews⟩) rfl (by simp [Value.oneCell']) (by unfold maxLen; omega) (by omega) my42.below.size ?_
          intro v' Y hown' hgrow hge hor
          clear hge hor
          have hMY := my42.grown oy42 hgrow
          refine hK.out _ _ (hSk _ hMY.below hMY.box) (fun hHeld => ?_)
          clear hK K
          try simp only [Act.put, List.setIfInBounds_toArray, List.set_cons_zero, List.set_cons_succ]
          refine wpAnyH_take (i := 25) (oi := ?oiq4625) (v := ?vq4625) ?h1q4625 (by kernel_rfl) (by kernel_rfl) (by kernel_rfl) ?h2q4625 ?hyq4625 (by assumption) ?restq4625
          case h1q4625 => (simp only [List.getElem?_toArray, List.getElem?_cons_succ, List.getElem?_cons_zero]; try rfl)
          case h2q4625 => exact fun c a w h => HP.out c a _ _ w h
          case hyq4625 => (refine Or.inl ⟨by rfl, ?_⟩; intro w hSw; (try dsimp only at hSw); go_simp; (try with_reducible rfl))
          try simp only [Act.put, List.setIfInBounds_toArray, List.set_cons_zero, List.set_cons_succ]
          refine wpAnyH_ready (rs := [26]) (by kernel_rfl) (by simp) ?_
          refine AllReadyH.cons (o := ?on47) ?h1n47 (fun K hK => ?armn47) AllReadyH.nil
          case h1n47 => (simp only [List.getElem?_toArray, List.getElem?_cons_succ, List.getElem?_cons_zero]; try rfl)
          case armn47 =>
            have c5 : Y.cell? ⟨bq, 5, none⟩ = some av := by have := hMY.nb; unfold notC at this; simp [World.cell?, this]
            have f5 := efroz hMY.nb 5
            obtain ⟨v'p, v'c, rfl⟩ := own_shape hown'
            go_simp
            clear c5 f5
            have hMZ := hMY.store (.slice v'p (acc.length + 1) v'c)
            have hOZ := own_set1 (u := .slice v'p (acc.length + 1) v'c) (o := 5) hown' hMY.nb (by decide)
            generalize hw9 : Y.setCell ⟨bq, 5, none⟩ (.slice v'p (acc.length + 1) v'c) = w9 at hMZ hOZ ⊢
            refine hK.out _ _ (hSk _ hMZ.below hMZ.box) (fun hHeld => ?_)
            clear hK K
            try simp only [Act.put, List.setIfInBounds_toArray, List.set_cons_zero, List.set_cons_succ]
            refine wpAnyH_done (by kernel_rfl) ?_ _
            have hOZ2 : w9.ownsRow w0.heap.size 55 3 (.slice v'p (acc.length + 1) v'c) (acc ++ [(⟨r.1, statusOf f.2, f.2⟩ : FlP)]).length ((acc ++ [(⟨r.1, statusOf f.2, f.2⟩ : FlP)]).flatMap flE) := by
              rw [List.length_append, List.flatMap_append]
              exact hOZ
            have HZ := Lib.hid (And.intro hMZ hOZ2)
            go_simp
            exact HK.out _ _ _ _ _ _ _ _ _ _ _ _ _ _ _ _ _ _ _ _ _ _ _ _ _ _ _ ⟨_, HZ.out.1, HZ.out.2⟩
end Go.Proofs.YtlpngibdplnieaaGreatDoor

/- entry: who waits, all together: in plain Lean. -/
namespace Go.Proofs.YtlpngibdplnieaaGreatDoor
open Go
/-! ### Who waits, all together -/
def sumN {α : Type} (f : α → Nat) (l : List α) : Nat := (l.map f).foldr (· + ·) 0
theorem sumN_cons {α : Type} (f : α → Nat) (x : α) (l : List α) : sumN f (x :: l) = f x + sumN f l := rfl
theorem sumN_snoc {α : Type} (f : α → Nat) (l : List α) (x : α) : sumN f (l ++ [x]) = sumN f l + f x := by
  induction l with
  | nil => simp [sumN]
  | cons y l ih => rw [List.cons_append, sumN_cons, sumN_cons, ih]; omega
theorem sumN_add {α : Type} (f g : α → Nat) (l : List α) : sumN (fun x => f x + g x) l = sumN f l + sumN g l := by
  induction l with
  | nil => rfl
  | cons y l ih => rw [sumN_cons, sumN_cons, sumN_cons, ih]; omega
theorem sumN_congr {α : Type} {f g : α → Nat} : ∀ {l : List α}, (∀ x ∈ l, f x = g x) → sumN f l = sumN g l
  | [], _ => rfl
  | y :: l, h => by rw [sumN_cons, sumN_cons, h y List.mem_cons_self, sumN_congr fun x hx => h x (List.mem_cons_of_mem _ hx)]
theorem sumN_zero {α : Type} (f : α → Nat) : ∀ {l : List α}, (∀ x ∈ l, f x = 0) → sumN f l = 0
  | [], _ => rfl
  | y :: l, h => by rw [sumN_cons, h y List.mem_cons_self, sumN_zero f fun x hx => h x (List.mem_cons_of_mem _ hx)]
theorem sumN_one {α : Type} [DecidableEq α] (d : α) : ∀ {l : List α}, l.Nodup → d ∈ l → sumN (fun x => if d = x then 1 else 0) l = 1
  | [], _, h => by cases h
  | y :: l, hn, h => by
    rw [List.nodup_cons] at hn
    rw [sumN_cons]
    by_cases e : d = y
    · subst e
      rw [if_pos rfl, sumN_zero _ fun x hx => if_neg fun e => hn.1 (by rw [e]; exact hx)]
    · rw [if_neg e, sumN_one d hn.2 (by rcases List.mem_cons.1 h with h | h; exact absurd h e; exact h)]
theorem sum_count {β : Type} (ds : List Bytes) (hn : ds.Nodup) (W : β → Bool) (P : β → Option Bytes) : ∀ (l : List β), (∀ i ∈ l, ∃ d ∈ ds, P i = some d) →
    sumN (fun d => l.countP fun i => W i && decide (P i = some d)) ds = l.countP W
  | [], _ => by simp [sumN_zero]
  | i :: l, h => by
    have ih := sum_count ds hn W P l fun k hk => h k (List.mem_cons_of_mem _ hk)
    obtain ⟨d, hd, he⟩ := h i List.mem_cons_self
    rw [List.countP_cons, ← ih]
    have : sumN (fun e => (i :: l).countP fun i => W i && decide (P i = some e)) ds = sumN (fun e => (l.countP fun i => W i && decide (P i = some e)) + (if W i = true then (if d = e then 1 else 0) else 0)) ds := sumN_congr fun e _ => by
      rw [List.countP_cons, he]
      congr 1
      cases W i <;> simp
    rw [this, sumN_add]
    congr 1
    cases W i
    · simp [sumN_zero]
    · simp [sumN_one d hn hd]
theorem countP_range {α : Type} (f : α → Bool) : ∀ (l : List α), ((List.range l.length).countP fun i => match l[i]? with | some p => f p | none => false) = l.countP f := by
  intro l
  have key : ∀ n, n ≤ l.length → ((List.range n).countP fun i => match l[i]? with | some p => f p | none => false) = (l.take n).countP f := by
    intro n
    induction n with
    | zero => simp
    | succ n ih =>
      intro hn
      rw [List.range_succ, List.countP_append, ih (by omega), List.take_succ_eq_append_getElem (by omega), List.countP_append]
      congr 1
      simp [List.countP_cons, List.getElem?_eq_getElem (show n < l.length by omega)]
  rw [key _ (Nat.le_refl _), List.take_length]
theorem plcB_count (cnt : RcP → FaP → Bool) (l : List (RcP × FaP)) : (plcB cnt l l.length).length = l.countP fun p => cnt p.1 p.2 := by
  unfold plcB
  rw [← List.countP_eq_length_filter]
  rw [← countP_range (fun p : RcP × FaP => cnt p.1 p.2) l]
  congr 1
  funext i
  cases l[i]? <;> rfl
theorem rcptsB_addr : ∀ (l ahead : List Bytes), rcptsB ahead l = true → ∀ r ∈ l, addrB r = true
  | [], _, _, r, h => by cases h
  | a :: l, ahead, hr, r, h => by
    unfold rcptsB at hr
    simp only [Bool.and_eq_true] at hr
    rcases List.mem_cons.1 h with rfl | h
    · exact hr.1.1
    · exact rcptsB_addr l _ hr.2 r h
theorem mailB_addr {m : MailP} {a b : Nat} (h : mailB m a b = 0) : ∀ r ∈ m.rcpts, ∃ d, (parseB r.1).map (·.2) = some d := by
  unfold mailB at h
  split at h
  · omega
  · split at h
    · rename_i h2
      simp only [Bool.and_eq_true] at h2
      intro r hr
      have := rcptsB_addr _ _ h2.2 r.1 (List.mem_map.2 ⟨r, hr, rfl⟩)
      unfold addrB at this
      cases hp : parseB r.1 with
      | none => rw [hp] at this; cases this
      | some p => exact ⟨p.2, rfl⟩
    · omega
theorem mailB_pos {m : MailP} {a b : Nat} (h : mailB m a b = 0) : 0 < m.rcpts.length := by
  unfold mailB at h
  split at h
  · omega
  · split at h
    · rename_i h2
      simp only [Bool.and_eq_true, decide_eq_true_eq] at h2
      exact h2.1.1.1.1.2
    · omega
theorem countP_zip2 {α β : Type} (f : β → Bool) : ∀ (l : List α) (m : List β), m.length = l.length → ((l.zip m).countP fun p => f p.2) = m.countP f
  | [], [], _ => rfl
  | [], _ :: _, h => by simp at h
  | _ :: _, [], h => by simp at h
  | a :: l, b :: m, h => by
    rw [List.zip_cons_cons, List.countP_cons, List.countP_cons, countP_zip2 f l m (by simpa using h)]
/-- Each recipient that waits is of just one job's domain. -/
theorem waits_sum (hmem : ∀ (rs : List RcP) (y : Bytes), y ∈ domsM rs ↔ y ∈ domsOf rs) (hnd : ∀ rs, (domsM rs).Nodup) {x : EntP} (h : MayN x) : sumN (fun j : JoP => (waitsM x j.dom).length) x.jobs = x.fates.countP waitB := by
  have hd := jobsOk_dom h.jobs
  have e : sumN (fun j : JoP => (waitsM x j.dom).length) x.jobs = sumN (fun d => (waitsM x d).length) (domsM x.mail.rcpts) := by
    rw [← hd]; unfold sumN; rw [List.map_map]; rfl
  rw [e]
  have e2 : sumN (fun d => (waitsM x d).length) (domsM x.mail.rcpts) = sumN (fun d => (x.mail.rcpts.zip x.fates).countP fun p => waitB p.2 && decide ((parseB p.1.1).map (·.2) = some d)) (domsM x.mail.rcpts) := sumN_congr fun d _ => by
    unfold waitsM plcM
    rw [plcB_count]; rfl
  rw [e2, sum_count _ (hnd _) (fun p : RcP × FaP => waitB p.2) (fun p : RcP × FaP => (parseB p.1.1).map (·.2)) _ fun p hp => ?_, countP_zip2 waitB _ _ h.len]
  have hr := (List.of_mem_zip hp).1
  obtain ⟨d, hd⟩ := mailB_addr h.mail p.1 hr
  exact ⟨d, (hmem _ _).2 (by unfold domsOf; exact List.mem_filterMap.2 ⟨p.1, hr, hd⟩), hd⟩
theorem settled_count (x : EntP) : settledB x = decide (x.fates.countP waitB = 0) := by
  unfold settledB
  rw [Bool.eq_iff_iff]
  simp [List.countP_eq_zero]
/-- The place of a job among jobs of distinct domains. -/
theorem jobAt_self {js : List JoP} (hn : (js.map (·.dom)).Nodup) {k : Nat} (hk : k < js.length) : jobAt js js[k].dom = some k := by
  unfold jobAt
  rw [List.findIdx?_eq_some_iff_getElem]
  refine ⟨hk, by simp, fun i hi => ?_⟩
  simp only [Bool.not_eq_true, decide_eq_false_iff_not]
  intro e
  have h1 : i < (js.map (·.dom)).length := by simp; omega
  have h2 : k < (js.map (·.dom)).length := by simpa using hk
  have := (List.pairwise_iff_getElem.1 hn) i k h1 h2 hi
  simp at this
  exact this e
theorem doms_pos {rs : List RcP} (hmem : ∀ (rs : List RcP) (y : Bytes), y ∈ domsM rs ↔ y ∈ domsOf rs) (h : 0 < rs.length) (ha : ∀ r ∈ rs, ∃ d, (parseB r.1).map (·.2) = some d) : 0 < (domsM rs).length := by
  cases rs with
  | nil => simp at h
  | cons r rs =>
    obtain ⟨d, hd⟩ := ha r List.mem_cons_self
    have : d ∈ domsM (r :: rs) := (hmem _ _).2 (by unfold domsOf; exact List.mem_filterMap.2 ⟨r, List.mem_cons_self, hd⟩)
    exact List.length_pos_of_mem this
end Go.Proofs.YtlpngibdplnieaaGreatDoor
