/- entry.End: its pieces. -/
import Derived.Test.YtdlpdpelhkgnlaaGreatDoorEendp
import Derived.Test.YtdlpdpelhkgnlaaGreatDoorEmj
import Derived.Test.YtdlpdpelhkgnlaaGreatDoorEqb
import Derived.Test.YtdlpdpelhkgnlaaGreatDoorEmay
namespace Go.Proofs.YtdlpdpelhkgnlaaGreatDoor
open Go Go.RowKit Go.Shelf Go.Sort
attribute [local go_sem] bneI

theorem enterEnd : ∀ args w, (callFunc 50 args).run Tryz.prog w = .ok (.enter 50 args) w := enters_of Tryz.func50 (by kernel_rfl) rfl
set_option maxRecDepth 100000 in
theorem endEq_any (d : Bytes) (b : Nat) (j : JoP) (w : World) (hd : w.cell? ⟨b, 0, none⟩ = some (.string ⟨d.toArray⟩)) :
    Calls Tryz.prog 50 (#[.agg (joE j).toArray] ++ #[.pointer (some ⟨b, 0, none⟩)]) w fun e w' => e = .returned (.bool (decide (j.dom = d))) ∧ Below w.heap.size w w' := by
  obtain ⟨dm, tr, du⟩ := j
  unfold joE
  dsimp only
  show Calls Tryz.prog 50 #[.agg #[.string ⟨dm.toArray⟩, .int .i64 tr, .int .i64 du], .pointer (some ⟨b, 0, none⟩)] w _
  obtain ⟨W1, hW1⟩ : ∃ W1, W1 = (w.alloc (.cells #[.string ⟨dm.toArray⟩, .int .i64 tr, .int .i64 du] 40)) := ⟨_, rfl⟩
  have hB1 : Below w.heap.size w W1 := by rw [hW1]; exact (Below.refl _ w).alloc (Nat.le_refl _) _
  have hb1 : W1.heap[w.heap.size]? = some (.cells #[.string ⟨dm.toArray⟩, .int .i64 tr, .int .i64 du] 40 (0, 0)) := by rw [hW1]; exact ha_eq rfl
  obtain ⟨x0, x1, x2⟩ := jbox hb1
  have hd1 : W1.cell? ⟨b, 0, none⟩ = some (.string ⟨d.toArray⟩) := (hB1.cell (p := ⟨_, _, none⟩) (cell_lt hd)).trans hd
  have HB := Lib.hid hB1
  clear hB1 hb1 hd
  by_cases h1 : dm = d
  · subst h1
    go_enter Tryz.func50, Tryz.ntmps50
    go_upto_region 1 with (fail)
    rw [← hW1]
    clear hW1
    go_wp2
    refine bodyPost_ret (v := .bool true) (by simp [results, Tryz.results50, go_sem]) rfl ⟨by simp, HB.out⟩
  · have hne : (dm == d) = false := by simpa using h1
    go_enter Tryz.func50, Tryz.ntmps50
    go_upto_region 1 with (fail)
    rw [← hW1]
    clear hW1
    go_wp2
    refine bodyPost_ret (v := .bool false) (by simp [results, Tryz.results50, go_sem]) rfl ⟨by simp [h1], HB.out⟩
theorem ix_jobAt {js : List JoP} {d : Bytes} {e : Ending} (h : IxPost (fun j : JoP => decide (j.dom = d)) js e) : (e = .returned (.int .i64 (-1)) ∧ jobAt js d = none) ∨ ∃ i, i < js.length ∧ e = .returned (.int .i64 (i : Int)) ∧ jobAt js d = some i := by
  rcases h with ⟨rfl, h⟩ | ⟨i, hi, rfl, h1, h2⟩
  · refine .inl ⟨rfl, ?_⟩
    unfold jobAt
    rw [List.findIdx?_eq_none_iff]
    intro x hx
    obtain ⟨j, hj, rfl⟩ := List.getElem_of_mem hx
    exact h j hj
  · refine .inr ⟨i, hi, rfl, ?_⟩
    unfold jobAt
    rw [List.findIdx?_eq_some_iff_getElem]
    exact ⟨hi, h1, fun j hj => by have := h2 j (by omega) hj; dsimp only at this; rw [this]; simp⟩
theorem own_seta {W : World} {base g : Nat} {T : TypeId} {k n cap a : Nat} {ys : List Value} (h : W.ownsRow base T k (.slice (some ⟨g, 0, none⟩) n cap) n ys) (u : Value) : (W.setCell ⟨g, a, none⟩ u).ownsRow base T k (.slice (some ⟨g, 0, none⟩) n cap) n (ys.set a u) := by
  refine ⟨by rw [List.length_set]; exact h.1, ?_⟩
  rcases h.2 with ⟨e, _⟩ | ⟨g', cap', cur, e, hg, hc, h1, h2, h3, h4⟩
  · cases e
  · cases e
    refine .inr ⟨g, cap, cur.setIfInBounds a u, rfl, hg, heap_setE hc, h1, h2, by rw [Array.size_setIfInBounds]; exact h3, ?_⟩
    rw [Array.toList_setIfInBounds, List.take_set, h4]
theorem flat_set2 {α : Type} {enc : α → List Value} (he : ∀ x, ∃ a b, enc x = [a, b]) {x : α} {u0 u1 : Value} (hx : enc x = [u0, u1]) : ∀ (xs : List α) (i : Nat), ((xs.flatMap enc).set (i * 2) u0).set (i * 2 + 1) u1 = (xs.set i x).flatMap enc
  | [], i => by simp
  | y :: ys, 0 => by
    obtain ⟨a, b, h⟩ := he y
    simp [h, hx]
  | y :: ys, i + 1 => by
    obtain ⟨a, b, h⟩ := he y
    rw [show (i + 1) * 2 = i * 2 + 1 + 1 by omega]
    simp only [List.flatMap_cons, h, List.cons_append, List.nil_append, List.set_cons_succ]
    rw [flat_set2 he hx ys i]
theorem flat_bump (due : Int) : ∀ (js : List JoP) (k : Nat) (j : JoP), js[k]? = some j → ((js.flatMap joE).set (k * 3 + 1) (.int .i64 (min 98 j.tries + 1))).set (k * 3 + 2) (.int .i64 due) = (js.modify k fun j => bumpJ j due).flatMap joE
  | [], k, j, h => by simp at h
  | y :: ys, 0, j, h => by
    simp at h
    subst h
    simp [joE, bumpJ]
  | y :: ys, k + 1, j, h => by
    rw [show (k + 1) * 3 = k * 3 + 1 + 1 + 1 by omega]
    simp only [List.flatMap_cons, joE, List.cons_append, List.nil_append, List.set_cons_succ, List.modify_succ_cons]
    rw [← flat_bump due ys k j (by simpa using h)]
/-- The entry under way in End. -/
structure EndL (w : World) (x : EntP) (B : Nat) (ws : List Nat) (wv sv fv jv : Value) (wr : World) : Prop where
  below : Below w.heap.size w wr
  box : wr.heap[w.heap.size]? = some (.cells (entC x sv fv jv).toArray 32 (0, 0))
  own : OwnE wr B x sv fv jv
  idx : wr.ownsRow (w.heap.size + 3) 3 1 wv ws.length (ws.map natV)
  res : wr.heap[w.heap.size + 2]? = some (.cells zeroC 32 (0, 0))
  ge : w.heap.size + 3 ≤ B
theorem EndL.keep {w wr w3 : World} {x : EntP} {B : Nat} {ws : List Nat} {wv sv fv jv : Value} (h : EndL w x B ws wv sv fv jv wr) (hb : Below wr.heap.size wr w3) : EndL w x B ws wv sv fv jv w3 := by
  have hg := grownBy_of_below hb none
  exact ⟨h.below.trans (hb.mono h.below.size), (hb.block _ (lt_of_cells h.box)).trans h.box, ⟨h.own.rc.kept hg (Classical.em _), h.own.fa.kept hg (Classical.em _), h.own.jo.kept hg (Classical.em _)⟩, h.idx.kept hg (Classical.em _), (hb.block _ (lt_of_cells h.res)).trans h.res, h.ge⟩
theorem own_block {W : World} {base g : Nat} {T : TypeId} {k n cap : Nat} {ys : List Value} (h : W.ownsRow base T k (.slice (some ⟨g, 0, none⟩) n cap) n ys) : base ≤ g ∧ n ≤ cap ∧ ∃ cur, W.heap[g]? = some (.cells cur T (0, 0)) ∧ cur.size = cap * k ∧ cur.toList.take (n * k) = ys := by
  rcases h.2 with ⟨e, _⟩ | ⟨g', cap', cur, e, hg, hc, h1, h2, h3, h4⟩
  · cases e
  · cases e
    exact ⟨hg, h1, cur, hc, h3, h4⟩
theorem own_pos {W : World} {base : Nat} {T : TypeId} {k n : Nat} {v : Value} {ys : List Value} (h : W.ownsRow base T k v n ys) (hn : 0 < n) : ∃ g cap, v = .slice (some ⟨g, 0, none⟩) n cap := by
  rcases h.2 with ⟨_, e⟩ | ⟨g', cap', cur, e, _⟩
  · omega
  · exact ⟨_, _, e⟩
theorem faE_two : ∀ x : FaP, ∃ a b, faE x = [a, b] := fun _ => ⟨_, _, rfl⟩
theorem EndL.step {w wr : World} {x : EntP} {B g k cap : Nat} {ws : List Nat} {wv sv jv : Value} (h : EndL w x B ws wv sv (.slice (some ⟨g, 0, none⟩) x.fates.length cap) jv wr) (f : FaP) :
    EndL w { x with fates := x.fates.set k f } B ws wv sv (.slice (some ⟨g, 0, none⟩) x.fates.length cap) jv ((wr.setCell ⟨g, k * 2, none⟩ (.int .u8 (f.1 : Int))).setCell ⟨g, k * 2 + 1, none⟩ (.string ⟨f.2.toArray⟩)) := by
  have hf := own_seta h.own.fa (a := k * 2) (.int .u8 (f.1 : Int))
  have hf2 := own_seta hf (a := k * 2 + 1) (.string ⟨f.2.toArray⟩)
  obtain ⟨hg, -, cur, hc, -, -⟩ := own_block h.own.fa
  obtain ⟨-, -, cur2, hc2, -, -⟩ := own_block hf
  rw [flat_set2 faE_two (x := f) rfl] at hf2
  have hrc := own_set1 (u := .int .u8 (f.1 : Int)) (o := k * 2) h.own.rc hc (by decide)
  have hjo := own_set1 (u := .int .u8 (f.1 : Int)) (o := k * 2) h.own.jo hc (by decide)
  have hix := own_set1 (u := .int .u8 (f.1 : Int)) (o := k * 2) h.idx hc (by decide)
  have hne : ∀ (W : World) (cur : Array Value) (a : Nat) (u : Value) (b : Nat) (cs : Array Value), W.heap[g]? = some (Obj.cells cur 42 (0, 0)) → W.heap[b]? = some (Obj.cells cs 32 (0, 0)) → (W.setCell ⟨g, a, none⟩ u).heap[b]? = some (Obj.cells cs 32 (0, 0)) := by
    intro W cur a u b cs hc hb
    rw [Below.heap_setCell _ _ _ b (fun e => ?_)]
    · exact hb
    · have e2 : b = g := e
      subst e2
      rw [hc] at hb
      injection hb with hb
      injection hb with _ hb _
      exact absurd hb (by decide)
  have hge : w.heap.size ≤ g := by have := h.ge; omega
  refine ⟨(h.below.setCell (p := ⟨g, _, none⟩) hge _).setCell (p := ⟨g, _, none⟩) hge _, hne _ _ _ _ _ _ hc2 (hne _ _ _ _ _ _ hc h.box), ⟨own_set1 hrc hc2 (by decide), ?_, own_set1 hjo hc2 (by decide)⟩, own_set1 hix hc2 (by decide), hne _ _ _ _ _ _ hc2 (hne _ _ _ _ _ _ hc h.res), h.ge⟩
  show World.ownsRow _ _ _ _ _ (x.fates.set k f).length _
  rw [List.length_set]
  exact hf2
theorem EndL.bump {w wr : World} {x : EntP} {B g k cap : Nat} {ws : List Nat} {wv sv fv : Value} {j : JoP} (h : EndL w x B ws wv sv fv (.slice (some ⟨g, 0, none⟩) x.jobs.length cap) wr) (hj : x.jobs[k]? = some j) (due : Int) :
    EndL w { x with jobs := x.jobs.modify k fun j => bumpJ j due } B ws wv sv fv (.slice (some ⟨g, 0, none⟩) x.jobs.length cap) ((wr.setCell ⟨g, k * 3 + 1, none⟩ (.int .i64 (min 98 j.tries + 1))).setCell ⟨g, k * 3 + 2, none⟩ (.int .i64 due)) := by
  have hk : k < x.jobs.length := (List.getElem?_eq_some_iff.1 hj).1
  have hf := own_seta h.own.jo (a := k * 3 + 1) (.int .i64 (min 98 j.tries + 1))
  have hf2 := own_seta hf (a := k * 3 + 2) (.int .i64 due)
  obtain ⟨hg, -, cur, hc, -, -⟩ := own_block h.own.jo
  obtain ⟨-, -, cur2, hc2, -, -⟩ := own_block hf
  rw [flat_bump due x.jobs k j hj] at hf2
  have hrc := own_set1 (u := .int .i64 (min 98 j.tries + 1)) (o := k * 3 + 1) h.own.rc hc (by decide)
  have hfa := own_set1 (u := .int .i64 (min 98 j.tries + 1)) (o := k * 3 + 1) h.own.fa hc (by decide)
  have hix := own_set1 (u := .int .i64 (min 98 j.tries + 1)) (o := k * 3 + 1) h.idx hc (by decide)
  have hne : ∀ (W : World) (cur : Array Value) (a : Nat) (u : Value) (b : Nat) (cs : Array Value), W.heap[g]? = some (Obj.cells cur 40 (0, 0)) → W.heap[b]? = some (Obj.cells cs 32 (0, 0)) → (W.setCell ⟨g, a, none⟩ u).heap[b]? = some (Obj.cells cs 32 (0, 0)) := by
    intro W cur a u b cs hc hb
    rw [Below.heap_setCell _ _ _ b (fun e => ?_)]
    · exact hb
    · have e2 : b = g := e
      subst e2
      rw [hc] at hb
      injection hb with hb
      injection hb with _ hb _
      exact absurd hb (by decide)
  have hge : w.heap.size ≤ g := by have := h.ge; omega
  refine ⟨(h.below.setCell (p := ⟨g, _, none⟩) hge _).setCell (p := ⟨g, _, none⟩) hge _, hne _ _ _ _ _ _ hc2 (hne _ _ _ _ _ _ hc h.box), ⟨own_set1 hrc hc2 (by decide), own_set1 hfa hc2 (by decide), ?_⟩, own_set1 hix hc2 (by decide), hne _ _ _ _ _ _ hc2 (hne _ _ _ _ _ _ hc h.res), h.ge⟩
  show World.ownsRow _ _ _ _ _ (x.jobs.modify k fun j => bumpJ j due).length _
  rw [List.length_modify]
  exact hf2
end Go.Proofs.YtdlpdpelhkgnlaaGreatDoor
