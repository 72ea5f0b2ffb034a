/- The contract of package tally's own function counted, at rows that may be. -/
import Derived.Test.YthhcigmdocldnaaDoorTallyL
import Derived.Laws.CopyOwn
import Derived.Test.YthhcigmdocldnaaDoorLawB
namespace Go.Proofs.YthhcigmdocldnaaDoor
open Go Go.RowKit Go.Shelf Go.Sort

/-- A store of what is there. -/
theorem setCell_same {W : World} {b off : Nat} {cs : Array Value} {t : TypeId} {f : Nat × Nat} {v : Value} (h : W.heap[b]? = some (.cells cs t f)) (hv : cs[off]? = some v) : W.setCell ⟨b, off, none⟩ v = W := by
  have hlt := (Array.getElem?_eq_some_iff.1 h).1
  have hol := (Array.getElem?_eq_some_iff.1 hv).1
  have e : W.heap.modify b (fun
      | .cells c elem frozen => .cells (if (none : Option Nat).isSome then c else c.setIfInBounds off v) elem frozen
      | o => o) = W.heap := by
    apply Array.ext
    · simp
    · intro i h1 h2
      rw [Array.getElem_modify]
      split
      · rename_i hi
        subst hi
        have hg : W.heap[b] = .cells cs t f := (Array.getElem?_eq_some_iff.1 h).2
        rw [hg]
        have : cs.setIfInBounds off v = cs := by
          apply Array.ext
          · simp
          · intro j h3 h4
            rw [Array.getElem_setIfInBounds]
            split
            · rename_i hj
              subst hj
              exact ((Array.getElem?_eq_some_iff.1 hv).2).symm
            · rfl
        simp [this]
      · rfl
  show { W with heap := _ } = W
  exact congrArg (fun x => { W with heap := x }) e

set_option maxRecDepth 100000 in
theorem index11 (a0 a1 a2 a3 a4 a5 a6 a7 a8 a9 a10 : Int) (k : Nat) (hk : k < 11) (w : World) : (Instr.index 82 (.agg #[.int .i64 a0, .int .i64 a1, .int .i64 a2, .int .i64 a3, .int .i64 a4, .int .i64 a5, .int .i64 a6, .int .i64 a7, .int .i64 a8, .int .i64 a9, .int .i64 a10]) (.int .i64 (k : Int))).run Tryd.prog w = .ok (.int .i64 ([a0, a1, a2, a3, a4, a5, a6, a7, a8, a9, a10].getD k 0)) w := by
  have hk' : k = 0 ∨ k = 1 ∨ k = 2 ∨ k = 3 ∨ k = 4 ∨ k = 5 ∨ k = 6 ∨ k = 7 ∨ k = 8 ∨ k = 9 ∨ k = 10 := by omega
  rcases hk' with rfl | rfl | rfl | rfl | rfl | rfl | rfl | rfl | rfl | rfl | rfl <;> rfl

set_option maxRecDepth 100000 in
set_option maxHeartbeats 2000000 in
theorem counted_good (w : World) (d : Bytes) (t : Nat) (a0 a1 a2 a3 a4 a5 a6 a7 a8 a9 a10 : Int) (g2 cap2 : Nat)
    (h0 : ∀ x ∈ [a0, a1, a2, a3, a4, a5, a6, a7, a8, a9, a10], 0 ≤ x) (hk : ∀ k, k < 11 → 0 < [a0, a1, a2, a3, a4, a5, a6, a7, a8, a9, a10].getD k 0 → kindB (t : Int) (k : Int) = true) (hk0 : kindB (t : Int) 0 = true) (hmB : mayB d = true)
    (hpos : ∃ k, k < 11 ∧ 0 < [a0, a1, a2, a3, a4, a5, a6, a7, a8, a9, a10].getD k 0) (hcells : ∀ k, k < 10 → w.cell? ⟨g2, k, none⟩ = some (.int .i64 ([a0, a1, a2, a3, a4, a5, a6, a7, a8, a9, a10].getD (k + 1) 0))) (hcap : 10 ≤ cap2)
    (hg : Glob w) (hm : MayT w) (hs : d.length ≤ maxLen) (ht : t < 256) :
    Calls Tryd.prog 50 #[.agg #[.string ⟨d.toArray⟩, .int .u8 (t : Int), .int .i64 a0, .slice (some ⟨g2, 0, none⟩) 10 cap2]] w fun e w' =>
      e = .returned (.tuple #[eV [a0, a1, a2, a3, a4, a5, a6, a7, a8, a9, a10], .bool true]) ∧ Below w.heap.size w w' := by
  have HH := Lib.hid (And.intro h0 (And.intro hk (And.intro hk0 (And.intro hmB (And.intro hpos (And.intro hcells (And.intro hcap (And.intro hg (And.intro hm (And.intro hs ht))))))))))
  clear h0 hk hk0 hmB hpos hcells hcap hg hm hs ht
  go_enter Tryd.func50, Tryd.ntmps50
  go_wp2_with fail
  obtain ⟨W2, hW2⟩ : ∃ W2, W2 = (w.alloc (.cells #[.string ⟨d.toArray⟩, .int .u8 (t : Int), .int .i64 a0, .slice (some ⟨g2, 0, none⟩) 10 cap2] 41)).alloc (.cells #[.int .i64 0, .int .i64 0, .int .i64 0, .int .i64 0, .int .i64 0, .int .i64 0, .int .i64 0, .int .i64 0, .int .i64 0, .int .i64 0, .int .i64 0] 82) := ⟨_, rfl⟩
  rw [← hW2]
  have hB2 : Below w.heap.size w W2 := by rw [hW2]; exact ((Below.refl _ w).alloc (Nat.le_refl _) _).alloc (by simp) _
  have hA2 : W2.heap[w.heap.size]? = some (.cells #[.string ⟨d.toArray⟩, .int .u8 (t : Int), .int .i64 a0, .slice (some ⟨g2, 0, none⟩) 10 cap2] 41 (0, 0)) := by rw [hW2]; exact (ha_ne (by simp)).trans (ha_eq rfl)
  have hC2 : W2.heap[w.heap.size + 1]? = some (.cells #[.int .i64 0, .int .i64 0, .int .i64 0, .int .i64 0, .int .i64 0, .int .i64 0, .int .i64 0, .int .i64 0, .int .i64 0, .int .i64 0, .int .i64 0] 82 (0, 0)) := by rw [hW2]; exact ha_eq (by simp)
  have hgl2 : Glob W2 := HH.out.2.2.2.2.2.2.2.1.below hB2 (by obtain ⟨m, hm⟩ := HH.out.2.2.2.2.2.2.2.1; exact cell_lt hm)
  have hmt2 : MayT W2 := HH.out.2.2.2.2.2.2.2.2.1.below hB2 (cell_lt (HH.out.2.2.2.2.2.2.2.2.1 0 (by omega)))
  have hM := tallyMay_any ⟨d.toArray⟩ t 0 W2 HH.out.2.2.2.2.2.2.2.2.2.1 hgl2 hmt2 HH.out.2.2.2.2.2.2.2.2.2.2 (Int.le_refl 0)
  have hyes : (kindB (t : Int) 0 && mayB (⟨d.toArray⟩ : ByteArray).data.toList) = true := by
    rw [HH.out.2.2.1]
    exact HH.out.2.2.2.1
  rw [hyes] at hM
  have H2 := Lib.hid (And.intro hB2 (And.intro hgl2 (And.intro hmt2 (And.intro hA2 hC2))))
  clear hW2 hB2 hA2 hC2 hgl2 hmt2 hyes
  refine hM.mono ?_
  rintro e W3 ⟨rfl, hB3⟩
  have hA3 := (hB3.block _ (Array.getElem?_eq_some_iff.1 H2.out.2.2.2.1).1).trans H2.out.2.2.2.1
  have hC3 := (hB3.block _ (Array.getElem?_eq_some_iff.1 H2.out.2.2.2.2).1).trans H2.out.2.2.2.2
  have hBw3 := H2.out.1.trans (Below.less hB3 H2.out.1.size)
  have H3 := Lib.hid hBw3
  obtain ⟨b0, hb0⟩ : ∃ b0, b0 = w.heap.size := ⟨_, rfl⟩
  obtain ⟨b1, hb1⟩ : ∃ b1, b1 = w.heap.size + 1 := ⟨_, rfl⟩
  rw [← hb0] at hA3
  rw [← hb1] at hC3
  rw [← hb1, ← hb0]
  have HB := Lib.hid (And.intro hb0 hb1)
  have hne : b0 ≠ b1 := by omega
  clear hM hB3 hBw3 hb0 hb1
  have x0 : W3.cell? ⟨b0, 0, none⟩ = some (.string ⟨d.toArray⟩) := by simp [World.cell?, hA3]
  have x1 : W3.cell? ⟨b0, 1, none⟩ = some (.int .u8 (t : Int)) := by simp [World.cell?, hA3]
  have x2 : W3.cell? ⟨b0, 2, none⟩ = some (.int .i64 a0) := by simp [World.cell?, hA3]
  have x3 : W3.cell? ⟨b0, 3, none⟩ = some (.slice (some ⟨g2, 0, none⟩) 10 cap2) := by simp [World.cell?, hA3]
  have y0 : W3.cell? ⟨b1, 0, none⟩ = some (.int .i64 0) := by simp [World.cell?, hC3]
  have y0f : W3.frozen? ⟨b1, 0, none⟩ = false := by simp [World.frozen?, hC3]
  have HC3 := Lib.hid (And.intro hA3 hC3)
  clear hA3 hC3
  go_wp2_with fail
  refine wp_region_still_tail 3 (by kernel_rfl) (by kernel_rfl) ?_
  simp only [List.take_succ_cons, List.take_zero, List.drop_succ_cons, List.drop_zero]
  show wpStill Tryd.prog _ (World.drew _) (fun a' => wpList _ _ _ _ a' (World.drew _)) _ _
  repeat still_step
  refine wpStill_nil ?_
  obtain ⟨W4, hW4⟩ : ∃ W4, W4 = (W3.setCell ⟨b1, 0, none⟩ (.int .i64 a0)).drew := ⟨_, rfl⟩
  rw [← hW4]
  have hB4 : Below w.heap.size w W4 := by
    rw [hW4]
    exact (H3.out.setCell (p := ⟨b1, 0, none⟩) (by have := HB.out.2; show w.heap.size ≤ b1; omega) _).drew
  have hH4 : W4.heap[b1]? = some (.cells #[.int .i64 a0, .int .i64 0, .int .i64 0, .int .i64 0, .int .i64 0, .int .i64 0, .int .i64 0, .int .i64 0, .int .i64 0, .int .i64 0, .int .i64 0] 82 (0, 0)) := by
    rw [hW4]
    simp [World.setCell, World.drew, Array.getElem?_modify, HC3.out.2]
  have hA4 : W4.heap[b0]? = some (.cells #[.string ⟨d.toArray⟩, .int .u8 (t : Int), .int .i64 a0, .slice (some ⟨g2, 0, none⟩) 10 cap2] 41 (0, 0)) := by
    rw [hW4]
    exact (Below.heap_setCell W3 _ _ b0 (by show b0 ≠ b1; exact hne)).trans HC3.out.1
  have hsrc : ∀ j v, [Value.int .i64 a1, .int .i64 a2, .int .i64 a3, .int .i64 a4, .int .i64 a5, .int .i64 a6, .int .i64 a7, .int .i64 a8, .int .i64 a9, .int .i64 a10][j]? = some v → W4.cell? ((⟨g2, 0, none⟩ : Addr).add j) = some v := by
    intro j v hv
    have hj : j < 10 := by
      have := (List.getElem?_eq_some_iff.1 hv).1
      simpa using this
    have hc := HH.out.2.2.2.2.2.1 j hj
    have ha : (⟨g2, 0, none⟩ : Addr).add j = ⟨g2, j, none⟩ := by
      unfold Addr.add
      split
      · rename_i e; rw [e]
      · simp
    rw [ha, (hB4.cell (p := ⟨g2, j, none⟩) (cell_lt hc)), hc]
    have hj' : j = 0 ∨ j = 1 ∨ j = 2 ∨ j = 3 ∨ j = 4 ∨ j = 5 ∨ j = 6 ∨ j = 7 ∨ j = 8 ∨ j = 9 := by omega
    rcases hj' with rfl | rfl | rfl | rfl | rfl | rfl | rfl | rfl | rfl | rfl <;> simpa using hv
  clear x0 x1 x2 x3 y0 y0f hW4
  refine wpList_copy_own rfl (.tmp 23) (.tmp 25) 39 39 rfl 3 Tryd.underlying39 (by kernel_rfl) b1 1 10 10 ⟨g2, 0, none⟩ 10 cap2 rfl rfl _ _ hH4 [Value.int .i64 a1, .int .i64 a2, .int .i64 a3, .int .i64 a4, .int .i64 a5, .int .i64 a6, .int .i64 a7, .int .i64 a8, .int .i64 a9, .int .i64 a10] rfl hsrc (by simp) (by simp [Value.oneCell']) ?_
  simp only [List.take_succ_cons, List.take_zero, List.length_cons, List.length_nil, List.drop_succ_cons, List.drop_zero, List.cons_append, List.nil_append, List.append_nil]
  obtain ⟨W5, hW5⟩ : ∃ W5, W5 = W4.setRow b1 #[.int .i64 a0, .int .i64 a1, .int .i64 a2, .int .i64 a3, .int .i64 a4, .int .i64 a5, .int .i64 a6, .int .i64 a7, .int .i64 a8, .int .i64 a9, .int .i64 a10] := ⟨_, rfl⟩
  have hH5 : W5.heap[b1]? = some (.cells #[.int .i64 a0, .int .i64 a1, .int .i64 a2, .int .i64 a3, .int .i64 a4, .int .i64 a5, .int .i64 a6, .int .i64 a7, .int .i64 a8, .int .i64 a9, .int .i64 a10] 82 (0, 0)) := by
    rw [hW5]
    exact setRow_heap W4 b1 _ _ _ _ hH4
  have hA5 : W5.heap[b0]? = some (.cells #[.string ⟨d.toArray⟩, .int .u8 (t : Int), .int .i64 a0, .slice (some ⟨g2, 0, none⟩) 10 cap2] 41 (0, 0)) := by
    rw [hW5]
    exact (setRow_other W4 b1 b0 _ hne).trans hA4
  have hB5 : Below w.heap.size w W5 := by rw [hW5]; exact below_setRow hB4 (by have := HB.out.2; omega) _
  rw [← hW5]
  have hgl5 : Glob W5 := HH.out.2.2.2.2.2.2.2.1.below hB5 (by obtain ⟨m, hm⟩ := HH.out.2.2.2.2.2.2.2.1; exact cell_lt hm)
  have hmt5 : MayT W5 := HH.out.2.2.2.2.2.2.2.2.1.below hB5 (cell_lt (HH.out.2.2.2.2.2.2.2.2.1 0 (by omega)))
  have y0 : W5.cell? ⟨b1, 0, none⟩ = some (.int .i64 a0) := by simp [World.cell?, hH5]
  have y1 : W5.cell? ⟨b1, 1, none⟩ = some (.int .i64 a1) := by simp [World.cell?, hH5]
  have y2 : W5.cell? ⟨b1, 2, none⟩ = some (.int .i64 a2) := by simp [World.cell?, hH5]
  have y3 : W5.cell? ⟨b1, 3, none⟩ = some (.int .i64 a3) := by simp [World.cell?, hH5]
  have y4 : W5.cell? ⟨b1, 4, none⟩ = some (.int .i64 a4) := by simp [World.cell?, hH5]
  have y5 : W5.cell? ⟨b1, 5, none⟩ = some (.int .i64 a5) := by simp [World.cell?, hH5]
  have y6 : W5.cell? ⟨b1, 6, none⟩ = some (.int .i64 a6) := by simp [World.cell?, hH5]
  have y7 : W5.cell? ⟨b1, 7, none⟩ = some (.int .i64 a7) := by simp [World.cell?, hH5]
  have y8 : W5.cell? ⟨b1, 8, none⟩ = some (.int .i64 a8) := by simp [World.cell?, hH5]
  have y9 : W5.cell? ⟨b1, 9, none⟩ = some (.int .i64 a9) := by simp [World.cell?, hH5]
  have y10 : W5.cell? ⟨b1, 10, none⟩ = some (.int .i64 a10) := by simp [World.cell?, hH5]
  have H5 := Lib.hid (And.intro hB5 (And.intro hH5 (And.intro hA5 (And.intro hgl5 hmt5))))
  clear hW5 hB4 hH4 hA4 hsrc hH5 hA5 hB5 hgl5 hmt5 HC3 H3 H2
  go_wp2_with fail
  clear y0 y1 y2 y3 y4 y5 y6 y7 y8 y9 y10
  generalize hAA : (#[.int .i64 a0, .int .i64 a1, .int .i64 a2, .int .i64 a3, .int .i64 a4, .int .i64 a5, .int .i64 a6, .int .i64 a7, .int .i64 a8, .int .i64 a9, .int .i64 a10] : Array Value) = AA
  have hix : ∀ k : Nat, k < 11 → ∀ w, (Instr.index 82 (.agg AA) (.int .i64 (k : Int))).run Tryd.prog w = .ok (.int .i64 ([a0, a1, a2, a3, a4, a5, a6, a7, a8, a9, a10].getD k 0)) w := by
    intro k hk w
    rw [← hAA]
    exact index11 a0 a1 a2 a3 a4 a5 a6 a7 a8 a9 a10 k hk w
  have HAA := Lib.hid hix
  clear hAA hix
  obtain ⟨c, hc⟩ : ∃ c : List Int, c = [a0, a1, a2, a3, a4, a5, a6, a7, a8, a9, a10] := ⟨_, rfl⟩
  go_loopw [3, 28] (fun ov kv wr => ∃ (k : Nat) (o : Bool), kv = .int .i64 (k : Int) ∧ k ≤ 11 ∧ ov = .bool o ∧ (o = true ↔ ∃ j, j < k ∧ 0 < c.getD j 0) ∧ Below W5.heap.size W5 wr)
    (fun _ kv _ => 11 - natOf kv)
  case atStart => exact ⟨0, false, rfl, Nat.zero_le _, rfl, ⟨fun h => (by cases h), fun ⟨j, hj, _⟩ => absurd hj (Nat.not_lt_zero _)⟩, Below.refl _ _⟩
  case round =>
    obtain ⟨k, o, rfl, hk, rfl, ho, hBr⟩ := hrel
    by_cases hk1 : k < 11
    · have hki : (k : Int) < 11 := by omega
      have hz := HAA.out k hk1
      rw [← hc] at hz
      have hz0 : 0 ≤ c.getD k 0 := by
        rw [hc]
        refine HH.out.1 _ ?_
        simp only [List.getD_eq_getElem?_getD, List.getElem?_eq_getElem (show k < [a0, a1, a2, a3, a4, a5, a6, a7, a8, a9, a10].length from hk1), Option.getD_some]
        exact List.getElem_mem _
      have hkk := HH.out.2.1 k hk1
      rw [← hc] at hkk
      have hAr := (hBr.block _ (Array.getElem?_eq_some_iff.1 H5.out.2.2.1).1).trans H5.out.2.2.1
      have x0 : wr.cell? ⟨b0, 0, none⟩ = some (.string ⟨d.toArray⟩) := by simp [World.cell?, hAr]
      have x1 : wr.cell? ⟨b0, 1, none⟩ = some (.int .u8 (t : Int)) := by simp [World.cell?, hAr]
      have hnext : ∀ o' : Bool, (o' = true ↔ (o = true ∨ 0 < c.getD k 0)) → (o' = true ↔ ∃ j, j < k + 1 ∧ 0 < c.getD j 0) := by
        intro o' h
        rw [h, ho]
        constructor
        · rintro (⟨j, hj, hp⟩ | hp)
          · exact ⟨j, by omega, hp⟩
          · exact ⟨k, by omega, hp⟩
        · rintro ⟨j, hj, hp⟩
          by_cases hjk : j = k
          · subst hjk; exact .inr hp
          · exact .inl ⟨j, by omega, hp⟩
      generalize c.getD k 0 = z at *
      by_cases hp : 0 < z
      · have hkb := hkk hp
        have hM := tallyMay_any ⟨d.toArray⟩ t (k : Int) wr HH.out.2.2.2.2.2.2.2.2.2.1 (H5.out.2.2.2.1.below hBr (by obtain ⟨m, hm⟩ := H5.out.2.2.2.1; exact cell_lt hm)) (H5.out.2.2.2.2.below hBr (cell_lt (H5.out.2.2.2.2 0 (by omega)))) HH.out.2.2.2.2.2.2.2.2.2.2 (by omega)
        have hyes : (kindB (t : Int) (k : Int) && mayB (⟨d.toArray⟩ : ByteArray).data.toList) = true := by
          rw [hkb]
          exact HH.out.2.2.2.1
        rw [hyes] at hM
        have hw8 : IntKind.u8.wrap (k : Int) = (k : Int) := by
          simp [IntKind.wrap, IntKind.bits, IntKind.signed]
          omega
        have hneg : ¬ z < 0 := by omega
        have HX := Lib.hid (And.intro hBr (hnext true (by simp [hp])))
        clear hBr hnext hkk hkb hyes hAr ho
        go_wp2_with fail
        refine hM.mono ?_
        rintro e w6 ⟨rfl, hB6⟩
        have HX6 := Lib.hid (HX.out.1.trans (Below.less hB6 HX.out.1.size))
        clear hM hB6 x0 x1
        cases o
        · go_wp2
          go_roundw
          case rel => exact ⟨k + 1, true, by simp, by omega, rfl, by simpa using HX.out.2, HX6.out⟩
          case measure => simp [natOf]; omega
        · go_wp2
          go_roundw
          case rel => exact ⟨k + 1, true, by simp, by omega, rfl, by simpa using HX.out.2, HX6.out⟩
          case measure => simp [natOf]; omega
      · obtain rfl : z = 0 := by omega
        have HX := Lib.hid (And.intro hBr (hnext o (by simp)))
        clear hBr hnext hkk hAr ho
        cases o
        · go_wp2
          go_roundw
          case rel => exact ⟨k + 1, false, by simp, by omega, rfl, by simpa using HX.out.2, HX.out.1⟩
          case measure => simp [natOf]; omega
        · go_wp2
          go_roundw
          case rel => exact ⟨k + 1, true, by simp, by omega, rfl, by simpa using HX.out.2, HX.out.1⟩
          case measure => simp [natOf]; omega
    · have hki : ¬ (k : Int) < 11 := by omega
      obtain rfl : k = 11 := by omega
      obtain rfl : o = true := ho.2 (by
        obtain ⟨j, hj, hp⟩ := HH.out.2.2.2.2.1
        exact ⟨j, hj, by rw [hc]; exact hp⟩)
      have hHr := (hBr.block _ (Array.getElem?_eq_some_iff.1 H5.out.2.1).1).trans H5.out.2.1
      have y0 : wr.cell? ⟨b1, 0, none⟩ = some (.int .i64 a0) := by simp [World.cell?, hHr]
      have y1 : wr.cell? ⟨b1, 1, none⟩ = some (.int .i64 a1) := by simp [World.cell?, hHr]
      have y2 : wr.cell? ⟨b1, 2, none⟩ = some (.int .i64 a2) := by simp [World.cell?, hHr]
      have y3 : wr.cell? ⟨b1, 3, none⟩ = some (.int .i64 a3) := by simp [World.cell?, hHr]
      have y4 : wr.cell? ⟨b1, 4, none⟩ = some (.int .i64 a4) := by simp [World.cell?, hHr]
      have y5 : wr.cell? ⟨b1, 5, none⟩ = some (.int .i64 a5) := by simp [World.cell?, hHr]
      have y6 : wr.cell? ⟨b1, 6, none⟩ = some (.int .i64 a6) := by simp [World.cell?, hHr]
      have y7 : wr.cell? ⟨b1, 7, none⟩ = some (.int .i64 a7) := by simp [World.cell?, hHr]
      have y8 : wr.cell? ⟨b1, 8, none⟩ = some (.int .i64 a8) := by simp [World.cell?, hHr]
      have y9 : wr.cell? ⟨b1, 9, none⟩ = some (.int .i64 a9) := by simp [World.cell?, hHr]
      have y10 : wr.cell? ⟨b1, 10, none⟩ = some (.int .i64 a10) := by simp [World.cell?, hHr]
      have e0 : wr.setCell ⟨b1, 0, none⟩ (.int .i64 a0) = wr := setCell_same hHr rfl
      have e1 : wr.setCell ⟨b1, 1, none⟩ (.int .i64 a1) = wr := setCell_same hHr rfl
      have e2 : wr.setCell ⟨b1, 2, none⟩ (.int .i64 a2) = wr := setCell_same hHr rfl
      have e3 : wr.setCell ⟨b1, 3, none⟩ (.int .i64 a3) = wr := setCell_same hHr rfl
      have e4 : wr.setCell ⟨b1, 4, none⟩ (.int .i64 a4) = wr := setCell_same hHr rfl
      have e5 : wr.setCell ⟨b1, 5, none⟩ (.int .i64 a5) = wr := setCell_same hHr rfl
      have e6 : wr.setCell ⟨b1, 6, none⟩ (.int .i64 a6) = wr := setCell_same hHr rfl
      have e7 : wr.setCell ⟨b1, 7, none⟩ (.int .i64 a7) = wr := setCell_same hHr rfl
      have e8 : wr.setCell ⟨b1, 8, none⟩ (.int .i64 a8) = wr := setCell_same hHr rfl
      have e9 : wr.setCell ⟨b1, 9, none⟩ (.int .i64 a9) = wr := setCell_same hHr rfl
      have e10 : wr.setCell ⟨b1, 10, none⟩ (.int .i64 a10) = wr := setCell_same hHr rfl
      have yf0 : wr.frozen? ⟨b1, 0, none⟩ = false := by simp [World.frozen?, hHr]
      have yf1 : wr.frozen? ⟨b1, 1, none⟩ = false := by simp [World.frozen?, hHr]
      have yf2 : wr.frozen? ⟨b1, 2, none⟩ = false := by simp [World.frozen?, hHr]
      have yf3 : wr.frozen? ⟨b1, 3, none⟩ = false := by simp [World.frozen?, hHr]
      have yf4 : wr.frozen? ⟨b1, 4, none⟩ = false := by simp [World.frozen?, hHr]
      have yf5 : wr.frozen? ⟨b1, 5, none⟩ = false := by simp [World.frozen?, hHr]
      have yf6 : wr.frozen? ⟨b1, 6, none⟩ = false := by simp [World.frozen?, hHr]
      have yf7 : wr.frozen? ⟨b1, 7, none⟩ = false := by simp [World.frozen?, hHr]
      have yf8 : wr.frozen? ⟨b1, 8, none⟩ = false := by simp [World.frozen?, hHr]
      have yf9 : wr.frozen? ⟨b1, 9, none⟩ = false := by simp [World.frozen?, hHr]
      have yf10 : wr.frozen? ⟨b1, 10, none⟩ = false := by simp [World.frozen?, hHr]
      have HX := Lib.hid hBr
      clear ho hBr hHr
      go_wp2
      refine bodyPost_ret (v := .tuple #[eV [a0, a1, a2, a3, a4, a5, a6, a7, a8, a9, a10], .bool true]) (by simp [results, Tryd.results50, go_sem, y0, y1, y2, y3, y4, y5, y6, y7, y8, y9, y10, eV]) rfl ⟨rfl, H5.out.1.trans (Below.less HX.out H5.out.1.size)⟩
end Go.Proofs.YthhcigmdocldnaaDoor
