/- The contract of package tally's own function counted, at whatever row. -/
import Derived.Test.YthhcigmdocldnaaDoorOfA
import Derived.Test.YthhcigmdocldnaaDoorApp
namespace Go.Proofs.YthhcigmdocldnaaDoor
open Go Go.RowKit Go.Shelf Go.Sort

/-- May a row be? (c: its good results, then its failures.) -/
def rowB (d : Bytes) (t : Nat) (c : List Int) : Bool := (kindB (t : Int) 0 && mayB d) && decide (c.length = 11) && ((List.range 11).all fun k => decide (0 ≤ c.getD k 0) && (decide (c.getD k 0 ≤ 0) || kindB (t : Int) (k : Int))) && ((List.range 11).any fun k => decide (0 < c.getD k 0))
theorem rowB_may {d : Bytes} {t : Nat} {c : List Int} (h : (kindB (t : Int) 0 && mayB d) = false) : rowB d t c = false := by
  unfold rowB; rw [h]; simp
theorem rowB_len {d : Bytes} {t : Nat} {c : List Int} (h : c.length ≠ 11) : rowB d t c = false := by
  unfold rowB; rw [decide_eq_false h]; simp
theorem rowB_bad {d : Bytes} {t : Nat} {c : List Int} {k : Nat} (hk : k < 11) (h : c.getD k 0 < 0 ∨ (0 < c.getD k 0 ∧ kindB (t : Int) (k : Int) = false)) : rowB d t c = false := by
  have : ((List.range 11).all fun k => decide (0 ≤ c.getD k 0) && (decide (c.getD k 0 ≤ 0) || kindB (t : Int) (k : Int))) = false := by
    rw [List.all_eq_false]
    refine ⟨k, List.mem_range.2 hk, ?_⟩
    rcases h with h | ⟨h1, h2⟩
    · rw [decide_eq_false (by omega)]; simp
    · rw [decide_eq_false (show ¬ c.getD k 0 ≤ 0 by omega), h2]; simp
  unfold rowB; rw [this]; simp
theorem rowB_end {d : Bytes} {t : Nat} {c : List Int} {o : Bool} (h1 : (kindB (t : Int) 0 && mayB d) = true) (h2 : c.length = 11) (h3 : ∀ k, k < 11 → 0 ≤ c.getD k 0 ∧ (0 < c.getD k 0 → kindB (t : Int) (k : Int) = true)) (h4 : o = true ↔ ∃ j, j < 11 ∧ 0 < c.getD j 0) : rowB d t c = o := by
  have ha : ((List.range 11).all fun k => decide (0 ≤ c.getD k 0) && (decide (c.getD k 0 ≤ 0) || kindB (t : Int) (k : Int))) = true := by
    rw [List.all_eq_true]
    intro k hk
    obtain ⟨h5, h6⟩ := h3 k (List.mem_range.1 hk)
    rw [decide_eq_true h5]
    by_cases hp : 0 < c.getD k 0
    · rw [h6 hp]; simp
    · rw [decide_eq_true (show c.getD k 0 ≤ 0 by omega)]; simp
  unfold rowB
  rw [h1, ha, decide_eq_true h2, Bool.eq_iff_iff, h4]
  simp
theorem arr11 {W : World} {b : Nat} {a0 a1 a2 a3 a4 a5 a6 a7 a8 a9 a10 : Int} {T : TypeId} (h : W.heap[b]? = some (.cells #[.int .i64 a0, .int .i64 a1, .int .i64 a2, .int .i64 a3, .int .i64 a4, .int .i64 a5, .int .i64 a6, .int .i64 a7, .int .i64 a8, .int .i64 a9, .int .i64 a10] T (0, 0))) : W.cell? ⟨b, 0, none⟩ = some (.int .i64 a0) ∧ W.cell? ⟨b, 1, none⟩ = some (.int .i64 a1) ∧ W.cell? ⟨b, 2, none⟩ = some (.int .i64 a2) ∧ W.cell? ⟨b, 3, none⟩ = some (.int .i64 a3) ∧ W.cell? ⟨b, 4, none⟩ = some (.int .i64 a4) ∧ W.cell? ⟨b, 5, none⟩ = some (.int .i64 a5) ∧ W.cell? ⟨b, 6, none⟩ = some (.int .i64 a6) ∧ W.cell? ⟨b, 7, none⟩ = some (.int .i64 a7) ∧ W.cell? ⟨b, 8, none⟩ = some (.int .i64 a8) ∧ W.cell? ⟨b, 9, none⟩ = some (.int .i64 a9) ∧ W.cell? ⟨b, 10, none⟩ = some (.int .i64 a10) ∧ W.setCell ⟨b, 0, none⟩ (.int .i64 a0) = W ∧ W.setCell ⟨b, 1, none⟩ (.int .i64 a1) = W ∧ W.setCell ⟨b, 2, none⟩ (.int .i64 a2) = W ∧ W.setCell ⟨b, 3, none⟩ (.int .i64 a3) = W ∧ W.setCell ⟨b, 4, none⟩ (.int .i64 a4) = W ∧ W.setCell ⟨b, 5, none⟩ (.int .i64 a5) = W ∧ W.setCell ⟨b, 6, none⟩ (.int .i64 a6) = W ∧ W.setCell ⟨b, 7, none⟩ (.int .i64 a7) = W ∧ W.setCell ⟨b, 8, none⟩ (.int .i64 a8) = W ∧ W.setCell ⟨b, 9, none⟩ (.int .i64 a9) = W ∧ W.setCell ⟨b, 10, none⟩ (.int .i64 a10) = W ∧ W.frozen? ⟨b, 0, none⟩ = false ∧ W.frozen? ⟨b, 1, none⟩ = false ∧ W.frozen? ⟨b, 2, none⟩ = false ∧ W.frozen? ⟨b, 3, none⟩ = false ∧ W.frozen? ⟨b, 4, none⟩ = false ∧ W.frozen? ⟨b, 5, none⟩ = false ∧ W.frozen? ⟨b, 6, none⟩ = false ∧ W.frozen? ⟨b, 7, none⟩ = false ∧ W.frozen? ⟨b, 8, none⟩ = false ∧ W.frozen? ⟨b, 9, none⟩ = false ∧ W.frozen? ⟨b, 10, none⟩ = false :=
  ⟨by simp [World.cell?, h], by simp [World.cell?, h], by simp [World.cell?, h], by simp [World.cell?, h], by simp [World.cell?, h], by simp [World.cell?, h], by simp [World.cell?, h], by simp [World.cell?, h], by simp [World.cell?, h], by simp [World.cell?, h], by simp [World.cell?, h], setCell_same h rfl, setCell_same h rfl, setCell_same h rfl, setCell_same h rfl, setCell_same h rfl, setCell_same h rfl, setCell_same h rfl, setCell_same h rfl, setCell_same h rfl, setCell_same h rfl, setCell_same h rfl, by simp [World.frozen?, h], by simp [World.frozen?, h], by simp [World.frozen?, h], by simp [World.frozen?, h], by simp [World.frozen?, h], by simp [World.frozen?, h], by simp [World.frozen?, h], by simp [World.frozen?, h], by simp [World.frozen?, h], by simp [World.frozen?, h], by simp [World.frozen?, h]⟩
/-- What counted answers. -/
def CntPost (w : World) (d : Bytes) (t : Nat) (c : List Int) (e : Ending) (w' : World) : Prop := ∃ c' ok, e = .returned (.tuple #[eV c', .bool ok]) ∧ c'.length = 11 ∧ ok = rowB d t c ∧ (ok = true → c' = c) ∧ Below w.heap.size w w'

set_option maxRecDepth 100000 in
set_option maxHeartbeats 2000000 in
theorem counted_any (w : World) (d : Bytes) (t : Nat) (a0 : Int) (fl : List Int) (fv : Value) (hF : RowIn w w.heap.size fv fl.length (fl.map (Value.int .i64))) (hg : Glob w) (hm : MayT w) (hs : d.length ≤ maxLen) (ht : t < 256) :
    Calls Tryd.prog 50 #[.agg #[.string ⟨d.toArray⟩, .int .u8 (t : Int), .int .i64 a0, fv]] w (CntPost w d t (a0 :: fl)) := by
  obtain ⟨fp, fc, rfl⟩ : ∃ fp fc, fv = .slice fp fl.length fc := by
    rcases hF with ⟨rfl, h0, _⟩ | ⟨ad, c, rfl, _⟩
    · exact ⟨none, 0, by rw [h0]⟩
    · exact ⟨_, _, rfl⟩
  have HH := Lib.hid (And.intro hF (And.intro hg (And.intro hm (And.intro hs ht))))
  clear hF hg hm hs ht
  go_enter Tryd.func50, Tryd.ntmps50
  go_wp2_with fail
  obtain ⟨W2, hW2⟩ : ∃ W2, W2 = (w.alloc (.cells #[.string ⟨d.toArray⟩, .int .u8 (t : Int), .int .i64 a0, .slice fp fl.length fc] 41)).alloc (.cells #[.int .i64 0, .int .i64 0, .int .i64 0, .int .i64 0, .int .i64 0, .int .i64 0, .int .i64 0, .int .i64 0, .int .i64 0, .int .i64 0, .int .i64 0] 82) := ⟨_, rfl⟩
  rw [← hW2]
  have hB2 : Below w.heap.size w W2 := by rw [hW2]; exact ((Below.refl _ w).alloc (Nat.le_refl _) _).alloc (by simp) _
  have hA2 : W2.heap[w.heap.size]? = some (.cells #[.string ⟨d.toArray⟩, .int .u8 (t : Int), .int .i64 a0, .slice fp fl.length fc] 41 (0, 0)) := by rw [hW2]; exact (ha_ne (by simp)).trans (ha_eq rfl)
  have hC2 : W2.heap[w.heap.size + 1]? = some (.cells #[.int .i64 0, .int .i64 0, .int .i64 0, .int .i64 0, .int .i64 0, .int .i64 0, .int .i64 0, .int .i64 0, .int .i64 0, .int .i64 0, .int .i64 0] 82 (0, 0)) := by rw [hW2]; exact ha_eq (by simp)
  have hgl2 : Glob W2 := HH.out.2.1.below hB2 (by obtain ⟨m, hm⟩ := HH.out.2.1; exact cell_lt hm)
  have hmt2 : MayT W2 := HH.out.2.2.1.below hB2 (cell_lt (HH.out.2.2.1 0 (by omega)))
  have hM := tallyMay_any ⟨d.toArray⟩ t 0 W2 HH.out.2.2.2.1 hgl2 hmt2 HH.out.2.2.2.2 (Int.le_refl 0)
  have hmd : mayB (⟨d.toArray⟩ : ByteArray).data.toList = mayB d := rfl
  rw [hmd] at hM
  have H2 := Lib.hid (And.intro hB2 (And.intro hgl2 (And.intro hmt2 (And.intro hA2 hC2))))
  clear hW2 hB2 hA2 hC2 hgl2 hmt2 hmd
  refine hM.mono ?_
  rintro e W3 ⟨rfl, hB3⟩
  have hA3 := (hB3.block _ (Array.getElem?_eq_some_iff.1 H2.out.2.2.2.1).1).trans H2.out.2.2.2.1
  have hC3 := (hB3.block _ (Array.getElem?_eq_some_iff.1 H2.out.2.2.2.2).1).trans H2.out.2.2.2.2
  have hBw3 := H2.out.1.trans (Below.less hB3 H2.out.1.size)
  obtain ⟨b0, hb0⟩ : ∃ b0, b0 = w.heap.size := ⟨_, rfl⟩
  obtain ⟨b1, hb1⟩ : ∃ b1, b1 = w.heap.size + 1 := ⟨_, rfl⟩
  rw [← hb0] at hA3
  rw [← hb1] at hC3
  rw [← hb1, ← hb0]
  have HB := Lib.hid (And.intro hb0 hb1)
  have hne : b0 ≠ b1 := by omega
  clear hM hB3 hb0 hb1
  have H3 := Lib.hid hBw3
  clear hBw3
  have x0 : W3.cell? ⟨b0, 0, none⟩ = some (.string ⟨d.toArray⟩) := by simp [World.cell?, hA3]
  have x1 : W3.cell? ⟨b0, 1, none⟩ = some (.int .u8 (t : Int)) := by simp [World.cell?, hA3]
  have x2 : W3.cell? ⟨b0, 2, none⟩ = some (.int .i64 a0) := by simp [World.cell?, hA3]
  have x3 : W3.cell? ⟨b0, 3, none⟩ = some (.slice fp fl.length fc) := by simp [World.cell?, hA3]
  have y0f : W3.frozen? ⟨b1, 0, none⟩ = false := by simp [World.frozen?, hC3]
  have HC3 := Lib.hid (And.intro hA3 hC3)
  clear hA3 hC3
  cases hkm : (kindB (t : Int) 0 && mayB d)
  · obtain ⟨y0, y1, y2, y3, y4, y5, y6, y7, y8, y9, y10, e0, e1, e2, e3, e4, e5, e6, e7, e8, e9, e10, yf0, yf1, yf2, yf3, yf4, yf5, yf6, yf7, yf8, yf9, yf10⟩ := arr11 HC3.out.2
    have HR := Lib.hid (rowB_may (c := a0 :: fl) hkm)
    clear hkm
    go_wp2
    refine bodyPost_ret (v := .tuple #[eV [0, 0, 0, 0, 0, 0, 0, 0, 0, 0, 0], .bool false]) (by simp [results, Tryd.results50, go_sem, y0, y1, y2, y3, y4, y5, y6, y7, y8, y9, y10, eV]) rfl ?_
    exact ⟨_, false, rfl, rfl, HR.out.symm, fun h => (by cases h), H3.out⟩
  · by_cases hl10 : fl.length = 10
    · obtain ⟨a1, a2, a3, a4, a5, a6, a7, a8, a9, a10, rfl⟩ : ∃ a1 a2 a3 a4 a5 a6 a7 a8 a9 a10, fl = [a1, a2, a3, a4, a5, a6, a7, a8, a9, a10] := by
        have h11 : (a0 :: fl).length = 11 := by simp [hl10]
        obtain ⟨b0, b1, b2, b3, b4, b5, b6, b7, b8, b9, b10, e⟩ := eleven h11
        injection e with _ e
        exact ⟨_, _, _, _, _, _, _, _, _, _, e⟩
      have HKM := Lib.hid hkm
      clear hkm hl10
      have y0 : W3.cell? ⟨b1, 0, none⟩ = some (.int .i64 0) := (arr11 HC3.out.2).1
      obtain ⟨ad, hcells⟩ : ∃ ad, fp = some ad ∧ ad.block < w.heap.size ∧ ∀ j u, [Value.int .i64 a1, .int .i64 a2, .int .i64 a3, .int .i64 a4, .int .i64 a5, .int .i64 a6, .int .i64 a7, .int .i64 a8, .int .i64 a9, .int .i64 a10][j]? = some u → w.cell? (ad.add j) = some u := by
        rcases HH.out.1 with ⟨_, h0, _⟩ | ⟨ad, cc, e, h1, h2⟩
        · simp at h0
        · injection e with e1 _ _
          exact ⟨ad, e1, h1 (by simp), h2⟩
      obtain ⟨rfl, hadl, hcells⟩ := hcells
      have HCL := Lib.hid (And.intro hadl hcells)
      clear hadl hcells
      simp only [List.length_cons, List.length_nil, Nat.zero_add, Nat.reduceAdd] at x3 HC3 ⊢
      go_wp2_with fail
      refine wp_region_still_tail 3 (by kernel_rfl) (by kernel_rfl) ?_
      simp only [List.take_succ_cons, List.take_zero, List.drop_succ_cons, List.drop_zero]
      show wpStill Tryd.prog _ (World.drew _) (fun a' => wpList _ _ _ _ a' (World.drew _)) _ _
      repeat still_step
      refine wpStill_nil ?_
      obtain ⟨W4, hW4⟩ : ∃ W4, W4 = (W3.setCell ⟨b1, 0, none⟩ (.int .i64 a0)).drew := ⟨_, rfl⟩
      rw [← hW4]
      have hB4 : Below w.heap.size w W4 := by
        rw [hW4]
        exact (H3.out.setCell (p := ⟨b1, 0, none⟩) (by have := HB.out.2; show w.heap.size ≤ b1; omega) _).drew
      have hH4 : W4.heap[b1]? = some (.cells #[.int .i64 a0, .int .i64 0, .int .i64 0, .int .i64 0, .int .i64 0, .int .i64 0, .int .i64 0, .int .i64 0, .int .i64 0, .int .i64 0, .int .i64 0] 82 (0, 0)) := by
        rw [hW4]
        simp [World.setCell, World.drew, Array.getElem?_modify, HC3.out.2]
      have hA4 : W4.heap[b0]? = some (.cells #[.string ⟨d.toArray⟩, .int .u8 (t : Int), .int .i64 a0, .slice (some ad) 10 fc] 41 (0, 0)) := by
        rw [hW4]
        exact (Below.heap_setCell W3 _ _ b0 (by show b0 ≠ b1; exact hne)).trans HC3.out.1
      have hsrc : ∀ j v, [Value.int .i64 a1, .int .i64 a2, .int .i64 a3, .int .i64 a4, .int .i64 a5, .int .i64 a6, .int .i64 a7, .int .i64 a8, .int .i64 a9, .int .i64 a10][j]? = some v → W4.cell? (ad.add j) = some v := fun j v hv =>
        (hB4.cell (p := ad.add j) (by unfold Addr.add; split <;> exact HCL.out.1)).trans (HCL.out.2 j v hv)
      clear x0 x1 x2 x3 y0 y0f hW4
      refine wpList_copy_own rfl (.tmp 23) (.tmp 25) 39 39 rfl 3 Tryd.underlying39 (by kernel_rfl) b1 1 10 10 ad 10 fc rfl rfl _ _ hH4 [Value.int .i64 a1, .int .i64 a2, .int .i64 a3, .int .i64 a4, .int .i64 a5, .int .i64 a6, .int .i64 a7, .int .i64 a8, .int .i64 a9, .int .i64 a10] rfl hsrc (by simp) (by simp [Value.oneCell']) ?_
      simp only [List.take_succ_cons, List.take_zero, List.length_cons, List.length_nil, List.drop_succ_cons, List.drop_zero, List.cons_append, List.nil_append, List.append_nil]
      obtain ⟨W5, hW5⟩ : ∃ W5, W5 = W4.setRow b1 #[.int .i64 a0, .int .i64 a1, .int .i64 a2, .int .i64 a3, .int .i64 a4, .int .i64 a5, .int .i64 a6, .int .i64 a7, .int .i64 a8, .int .i64 a9, .int .i64 a10] := ⟨_, rfl⟩
      have hH5 : W5.heap[b1]? = some (.cells #[.int .i64 a0, .int .i64 a1, .int .i64 a2, .int .i64 a3, .int .i64 a4, .int .i64 a5, .int .i64 a6, .int .i64 a7, .int .i64 a8, .int .i64 a9, .int .i64 a10] 82 (0, 0)) := by
        rw [hW5]
        exact setRow_heap W4 b1 _ _ _ _ hH4
      have hA5 : W5.heap[b0]? = some (.cells #[.string ⟨d.toArray⟩, .int .u8 (t : Int), .int .i64 a0, .slice (some ad) 10 fc] 41 (0, 0)) := by
        rw [hW5]
        exact (setRow_other W4 b1 b0 _ hne).trans hA4
      have hB5 : Below w.heap.size w W5 := by rw [hW5]; exact below_setRow hB4 (by have := HB.out.2; omega) _
      rw [← hW5]
      have hgl5 : Glob W5 := HH.out.2.1.below hB5 (by obtain ⟨m, hm⟩ := HH.out.2.1; exact cell_lt hm)
      have hmt5 : MayT W5 := HH.out.2.2.1.below hB5 (cell_lt (HH.out.2.2.1 0 (by omega)))
      obtain ⟨y0, y1, y2, y3, y4, y5, y6, y7, y8, y9, y10, e0, e1, e2, e3, e4, e5, e6, e7, e8, e9, e10, yf0, yf1, yf2, yf3, yf4, yf5, yf6, yf7, yf8, yf9, yf10⟩ := arr11 hH5
      have H5 := Lib.hid (And.intro hB5 (And.intro hH5 (And.intro hA5 (And.intro hgl5 hmt5))))
      clear hW5 hB4 hH4 hA4 hsrc hH5 hA5 hB5 hgl5 hmt5 HC3 H3 H2 e0 yf0 e1 yf1 e2 yf2 e3 yf3 e4 yf4 e5 yf5 e6 yf6 e7 yf7 e8 yf8 e9 yf9 e10 yf10
      go_wp2_with fail
      clear y0 y1 y2 y3 y4 y5 y6 y7 y8 y9 y10
      obtain ⟨c, hc⟩ : ∃ c : List Int, c = [a0, a1, a2, a3, a4, a5, a6, a7, a8, a9, a10] := ⟨_, rfl⟩
      have HC := Lib.hid hc
      generalize hAA : (#[.int .i64 a0, .int .i64 a1, .int .i64 a2, .int .i64 a3, .int .i64 a4, .int .i64 a5, .int .i64 a6, .int .i64 a7, .int .i64 a8, .int .i64 a9, .int .i64 a10] : Array Value) = AA
      have hix : ∀ k : Nat, k < 11 → ∀ w, (Instr.index 82 (.agg AA) (.int .i64 (k : Int))).run Tryd.prog w = .ok (.int .i64 (c.getD k 0)) w := by
        intro k hk w
        rw [← hAA, hc]
        exact index11 a0 a1 a2 a3 a4 a5 a6 a7 a8 a9 a10 k hk w
      have HAA := Lib.hid hix
      clear hAA hix hc
      go_loopw [3, 28] (fun ov kv wr => ∃ (k : Nat) (o : Bool), kv = .int .i64 (k : Int) ∧ k ≤ 11 ∧ ov = .bool o ∧ (o = true ↔ ∃ j, j < k ∧ 0 < c.getD j 0) ∧ (∀ j, j < k → 0 ≤ c.getD j 0 ∧ (0 < c.getD j 0 → kindB (t : Int) (j : Int) = true)) ∧ Below W5.heap.size W5 wr)
        (fun _ kv _ => 11 - natOf kv)
      case atStart => exact ⟨0, false, rfl, Nat.zero_le _, rfl, ⟨fun h => (by cases h), fun ⟨j, hj, _⟩ => absurd hj (Nat.not_lt_zero _)⟩, fun j hj => absurd hj (Nat.not_lt_zero _), Below.refl _ _⟩
      case round =>
        obtain ⟨k, o, rfl, hk, rfl, ho, hall, hBr⟩ := hrel
        have hHr := (hBr.block _ (Array.getElem?_eq_some_iff.1 H5.out.2.1).1).trans H5.out.2.1
        by_cases hk1 : k < 11
        · have hki : (k : Int) < 11 := by omega
          have hz := HAA.out k hk1
          have hAr := (hBr.block _ (Array.getElem?_eq_some_iff.1 H5.out.2.2.1).1).trans H5.out.2.2.1
          have x0 : wr.cell? ⟨b0, 0, none⟩ = some (.string ⟨d.toArray⟩) := by simp [World.cell?, hAr]
          have x1 : wr.cell? ⟨b0, 1, none⟩ = some (.int .u8 (t : Int)) := by simp [World.cell?, hAr]
          have hbad : c.getD k 0 < 0 ∨ (0 < c.getD k 0 ∧ kindB (t : Int) (k : Int) = false) → rowB d t c = false := fun h => rowB_bad hk1 h
          have hnext : 0 ≤ c.getD k 0 → (0 < c.getD k 0 → kindB (t : Int) (k : Int) = true) → ∀ o' : Bool, (o' = true ↔ (o = true ∨ 0 < c.getD k 0)) → (o' = true ↔ ∃ j, j < k + 1 ∧ 0 < c.getD j 0) ∧ (∀ j, j < k + 1 → 0 ≤ c.getD j 0 ∧ (0 < c.getD j 0 → kindB (t : Int) (j : Int) = true)) := by
            intro hz0 hkz o' h
            constructor
            · rw [h, ho]
              constructor
              · rintro (⟨j, hj, hp⟩ | hp)
                · exact ⟨j, by omega, hp⟩
                · exact ⟨k, by omega, hp⟩
              · rintro ⟨j, hj, hp⟩
                by_cases hjk : j = k
                · subst hjk; exact .inr hp
                · exact .inl ⟨j, by omega, hp⟩
            · intro j hj
              by_cases hjk : j = k
              · subst hjk; exact ⟨hz0, hkz⟩
              · exact hall j (by omega)
          have HN := Lib.hid (And.intro hbad (And.intro hnext (And.intro hHr hBr)))
          clear hbad hnext hHr hBr hall ho hAr
          generalize c.getD k 0 = z at *
          by_cases hp : 0 < z
          · have hM := tallyMay_any ⟨d.toArray⟩ t (k : Int) wr HH.out.2.2.2.1 (H5.out.2.2.2.1.below HN.out.2.2.2 (by obtain ⟨m, hm⟩ := H5.out.2.2.2.1; exact cell_lt hm)) (H5.out.2.2.2.2.below HN.out.2.2.2 (cell_lt (H5.out.2.2.2.2 0 (by omega)))) HH.out.2.2.2.2 (by omega)
            have hmd : mayB (⟨d.toArray⟩ : ByteArray).data.toList = mayB d := rfl
            have hmB : mayB d = true := by
              have := HKM.out
              rw [Bool.and_eq_true] at this
              exact this.2
            rw [hmd, hmB, Bool.and_true] at hM
            have hw8 : IntKind.u8.wrap (k : Int) = (k : Int) := by
              simp [IntKind.wrap, IntKind.bits, IntKind.signed]
              omega
            have hneg : ¬ z < 0 := by omega
            clear hmd hmB
            cases hkb : kindB (t : Int) (k : Int)
            · have HX := Lib.hid (HN.out.1 (.inr ⟨hp, hkb⟩))
              rw [hkb] at hM
              clear hkb
              go_wp2_with fail
              refine hM.mono ?_
              rintro e w6 ⟨rfl, hB6⟩
              have hH6 := (hB6.block _ (Array.getElem?_eq_some_iff.1 HN.out.2.2.1).1).trans HN.out.2.2.1
              obtain ⟨y0, y1, y2, y3, y4, y5, y6, y7, y8, y9, y10, e0, e1, e2, e3, e4, e5, e6, e7, e8, e9, e10, yf0, yf1, yf2, yf3, yf4, yf5, yf6, yf7, yf8, yf9, yf10⟩ := arr11 hH6
              have HX6 := Lib.hid (H5.out.1.trans (Below.less (HN.out.2.2.2.trans (Below.less hB6 HN.out.2.2.2.size)) H5.out.1.size))
              clear hM hB6 x0 x1 hH6
              go_wp2
              refine bodyPost_ret (v := .tuple #[eV [a0, a1, a2, a3, a4, a5, a6, a7, a8, a9, a10], .bool false]) (by simp [results, Tryd.results50, go_sem, y0, y1, y2, y3, y4, y5, y6, y7, y8, y9, y10, eV]) rfl ?_
              exact ⟨_, false, rfl, rfl, by rw [← HC.out]; exact HX.out.symm, fun h => (by cases h), HX6.out⟩
            · have HX := Lib.hid (HN.out.2.1 (by omega) (fun _ => hkb) true (by simp [hp]))
              rw [hkb] at hM
              clear hkb
              go_wp2_with fail
              refine hM.mono ?_
              rintro e w6 ⟨rfl, hB6⟩
              have HX6 := Lib.hid (HN.out.2.2.2.trans (Below.less hB6 HN.out.2.2.2.size))
              clear hM hB6 x0 x1
              cases o
              · go_wp2
                go_roundw
                case rel => exact ⟨k + 1, true, by simp, by omega, rfl, by simpa using HX.out.1, HX.out.2, HX6.out⟩
                case measure => simp [natOf]; omega
              · go_wp2
                go_roundw
                case rel => exact ⟨k + 1, true, by simp, by omega, rfl, by simpa using HX.out.1, HX.out.2, HX6.out⟩
                case measure => simp [natOf]; omega
          · by_cases hn : z < 0
            · have HX := Lib.hid (HN.out.1 (.inl hn))
              obtain ⟨y0, y1, y2, y3, y4, y5, y6, y7, y8, y9, y10, e0, e1, e2, e3, e4, e5, e6, e7, e8, e9, e10, yf0, yf1, yf2, yf3, yf4, yf5, yf6, yf7, yf8, yf9, yf10⟩ := arr11 HN.out.2.2.1
              have HX6 := Lib.hid (H5.out.1.trans (Below.less HN.out.2.2.2 H5.out.1.size))
              clear x0 x1
              go_wp2
              refine bodyPost_ret (v := .tuple #[eV [a0, a1, a2, a3, a4, a5, a6, a7, a8, a9, a10], .bool false]) (by simp [results, Tryd.results50, go_sem, y0, y1, y2, y3, y4, y5, y6, y7, y8, y9, y10, eV]) rfl ?_
              exact ⟨_, false, rfl, rfl, by rw [← HC.out]; exact HX.out.symm, fun h => (by cases h), HX6.out⟩
            · obtain rfl : z = 0 := by omega
              have HX := Lib.hid (HN.out.2.1 (Int.le_refl 0) (fun h => absurd h (Int.lt_irrefl 0)) o (by simp))
              cases o
              · go_wp2
                go_roundw
                case rel => exact ⟨k + 1, false, by simp, by omega, rfl, by simpa using HX.out.1, HX.out.2, HN.out.2.2.2⟩
                case measure => simp [natOf]; omega
              · go_wp2
                go_roundw
                case rel => exact ⟨k + 1, true, by simp, by omega, rfl, by simpa using HX.out.1, HX.out.2, HN.out.2.2.2⟩
                case measure => simp [natOf]; omega
        · have hki : ¬ (k : Int) < 11 := by omega
          obtain rfl : k = 11 := by omega
          obtain ⟨y0, y1, y2, y3, y4, y5, y6, y7, y8, y9, y10, e0, e1, e2, e3, e4, e5, e6, e7, e8, e9, e10, yf0, yf1, yf2, yf3, yf4, yf5, yf6, yf7, yf8, yf9, yf10⟩ := arr11 hHr
          have HX := Lib.hid (And.intro ho (And.intro hall hBr))
          clear ho hBr hHr hall
          go_wp2
          refine bodyPost_ret (v := .tuple #[eV [a0, a1, a2, a3, a4, a5, a6, a7, a8, a9, a10], .bool o]) (by simp [results, Tryd.results50, go_sem, y0, y1, y2, y3, y4, y5, y6, y7, y8, y9, y10, eV]) rfl ?_
          exact ⟨_, o, rfl, rfl, by rw [← HC.out]; exact (rowB_end HKM.out (by rw [HC.out]; rfl) HX.out.2.1 HX.out.1).symm, fun _ => rfl, H5.out.1.trans (Below.less HX.out.2.2 H5.out.1.size)⟩
    · obtain ⟨y0, y1, y2, y3, y4, y5, y6, y7, y8, y9, y10, e0, e1, e2, e3, e4, e5, e6, e7, e8, e9, e10, yf0, yf1, yf2, yf3, yf4, yf5, yf6, yf7, yf8, yf9, yf10⟩ := arr11 HC3.out.2
      have HR := Lib.hid (rowB_len (d := d) (t := t) (c := a0 :: fl) (by simp; exact hl10))
      have hl10' : ¬ (fl.length : Int) = 10 := by omega
      clear hkm hl10
      go_wp2
      refine bodyPost_ret (v := .tuple #[eV [0, 0, 0, 0, 0, 0, 0, 0, 0, 0, 0], .bool false]) (by simp [results, Tryd.results50, go_sem, y0, y1, y2, y3, y4, y5, y6, y7, y8, y9, y10, eV]) rfl ?_
      exact ⟨_, false, rfl, rfl, HR.out.symm, fun h => (by cases h), H3.out⟩
end Go.Proofs.YthhcigmdocldnaaDoor
