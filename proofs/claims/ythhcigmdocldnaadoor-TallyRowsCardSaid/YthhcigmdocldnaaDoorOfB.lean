/- The contract of package tally's Of, at rows that are a tally's. -/
import Derived.Test.YthhcigmdocldnaaDoorOfA
import Derived.Test.YthhcigmdocldnaaDoorLawE
namespace Go.Proofs.YthhcigmdocldnaaDoor
open Go Go.RowKit Go.Shelf Go.Sort

/-- Three bounds on what was written. -/
structure Below3 (W8 W9 wr W6 : World) : Prop where
  mk ::
  h1 : Below W8.heap.size W8 W9
  h2 : Below wr.heap.size wr W9
  h3 : Below W6.heap.size W6 W9

structure RowOk (x : (Bytes × Nat) × List Int) : Prop where
  len : x.2.length = 11
  pos : ∀ a ∈ x.2, 0 ≤ a
  kind : ∀ k, k < 11 → 0 < x.2.getD k 0 → kindB (x.1.2 : Int) (k : Int) = true
  kind0 : kindB (x.1.2 : Int) 0 = true
  may : mayB x.1.1 = true
  some_ : ∃ k, k < 11 ∧ 0 < x.2.getD k 0
  dom : x.1.1.length ≤ maxLen
  typ : x.1.2 < 256

theorem below_grow (w : World) (os : Array Obj) : Below w.heap.size w (grow w os) := ⟨rfl, rfl, rfl, by simp [grow], fun k hk => by simp [grow, Array.getElem?_append_left hk]⟩
theorem grown_put1 (W : World) (ob : Obj) (bm : Nat) : W.grownBy (W.drew.putObj bm ob) (some bm) :=
  ⟨rfl, rfl, rfl, by simp [World.putObj], fun k _ hk => World.putObj_heap_other (w := W.drew) (k := k) (r := bm) (fun e => hk (by rw [e]))⟩
theorem put_new {l : Ent} {k : Bytes × Nat} {v : List Int} (h : k ∉ l.map (·.1)) : put l k v = l ++ [(k, v)] := by
  unfold put
  rw [if_neg (fun e => h (has_mem.1 e))]
theorem asc_fresh {xs : Ent} (h : Asc cmpP (xs.map (·.1))) {i : Nat} (hi : i < xs.length) : xs[i].1 ∉ (xs.take i).map (·.1) := by
  have hn := h.nodup ordP
  intro hm
  obtain ⟨y, hy, e⟩ := List.mem_map.1 hm
  obtain ⟨j, hj, rfl⟩ := List.getElem_of_mem hy
  simp only [List.length_take] at hj
  have hj2 : j < xs.length := by omega
  have := nodup_inj hn (i := j) (j := i) (by simpa using hj2) (by simpa using hi) (by simpa using e)
  omega
theorem asc_step {xs : Ent} (h : Asc cmpP (xs.map (·.1))) {i : Nat} (hi : i + 1 < xs.length) : cmpP xs[i].1 xs[i + 1].1 < 0 := by
  have := List.pairwise_iff_getElem.1 h i (i + 1) (by simp; omega) (by simpa using hi) (by omega)
  simpa using this

set_option maxRecDepth 100000 in
set_option maxHeartbeats 2000000 in
theorem of_good (w : World) (names : Int) (hn1 : 1 ≤ names) (hn2 : names ≤ 8) (v : Value) (xs : Ent) (base : Nat) (h : RowsT 41 w base v xs) (hok : ∀ x ∈ xs, RowOk x) (hasc : Asc cmpP (xs.map (·.1)))
    (hdom : ((domsL xs).length : Int) ≤ names) (hxl : xs.length ≤ 1000) (hg : Glob w) (hm : MayT w) :
    Calls Tryd.prog 27 #[.int .i64 names, v] w fun e w' => e = .returned (.tuple #[.pointer (some ⟨w.heap.size + 1, 0, none⟩), .int .i64 0]) ∧ TallyAt w' (w.heap.size + 1) w.heap.size names xs ∧ Below w.heap.size w w' := by
  have hN := new_step (Sess.start hg hm) names hn1 hn2
  have hsh : ∃ pr cr, v = .slice pr xs.length cr := by
    obtain ⟨vs, _, _, hvo⟩ := h
    rcases hvo.2 with ⟨rfl, h0⟩ | ⟨g, cap, cur, rfl, _⟩
    · exact ⟨none, 0, by rw [h0]⟩
    · exact ⟨_, _, rfl⟩
  obtain ⟨pr, cr, rfl⟩ := hsh
  have hx11 : ∀ x ∈ xs, x.2.length = 11 := fun x hx => (hok x hx).len
  have hcellsAll : ∀ W, Below w.heap.size w W → ∀ i (hi : i < xs.length), ∃ g g2 cap2, pr = some ⟨g, 0, none⟩ ∧ xs.length ≤ cr ∧ W4 W g i xs[i] g2 cap2 ∧ 10 ≤ cap2 ∧ g < w.heap.size := by
    intro W hBW i hi
    obtain ⟨vs, hvl, hvf, hvo⟩ := h.below hBW
    obtain ⟨g, g2, cap2, e, hcr, x0, x1, x2, x3, x4, x5⟩ := rows_at hvl hvf hvo hx11 hi
    obtain ⟨vs', hvl', hvf', hvo'⟩ := h
    obtain ⟨g', g2', cap2', e', _, x0', _⟩ := rows_at hvl' hvf' hvo' hx11 hi
    rw [e] at e'
    injection e' with e'
    injection e' with e'
    subst e'
    exact ⟨g, g2, cap2, e, hcr, ⟨x0, x1, x2, x3, x5⟩, x4, cell_lt x0'⟩
  have HH := Lib.hid (And.intro hcellsAll (And.intro hok (And.intro hasc (And.intro hdom (And.intro hg hm)))))
  clear h hok hasc hdom hg hm hx11 hcellsAll
  go_enter Tryd.func27, Tryd.ntmps27
  go_wp2_with fail
  refine hN.mono ?_
  rintro e w1 ⟨rfl, hT, hB1⟩
  have hT1 := hT.at_
  have H1 := Lib.hid (And.intro hT1 hB1)
  clear hN hT hT1 hB1
  go_wp2_with fail
  go_loopw [23] (fun iv wr => ∃ i : Nat, iv = .int .i64 (i : Int) ∧ i ≤ xs.length ∧ TallyAt wr (w.heap.size + 1) w.heap.size names (xs.take i) ∧ Below w.heap.size w wr)
    (fun iv _ => xs.length - natOf iv)
  case atStart => exact ⟨0, rfl, Nat.zero_le _, H1.out.1, H1.out.2⟩
  case round =>
    obtain ⟨i, rfl, hi, hTr, hBr⟩ := hrel
    by_cases hlast : i < xs.length
    · have hli : (i : Int) < (xs.length : Int) := by omega
      obtain ⟨g, g2, cap2, rfl, hcr, ⟨x0, x1, x2, x3, x5⟩, hc2, hgl⟩ := HH.out.1 wr hBr i hlast
      have hrow := HH.out.2.1 xs[i] (List.getElem_mem hlast)
      have HR := Lib.hid (And.intro hTr (And.intro hBr (And.intro hi (And.intro hrow (And.intro x5 hc2)))))
      clear hTr hBr hi hrow x5 hc2
      generalize hq : xs[i] = q at *
      obtain ⟨⟨qd, qt⟩, qc⟩ := q
      dsimp only at x0 x1 x2
      obtain ⟨a0, a1, a2, a3, a4, a5, a6, a7, a8, a9, a10, rfl⟩ := eleven HR.out.2.2.2.1.len
      have x2' : wr.cell? ⟨g, i * 4 + 2, none⟩ = some (.int .i64 a0) := x2
      clear x2
      go_wp2_with fail
      obtain ⟨W5, hW5⟩ : ∃ W5, W5 = wr.alloc (.cells #[.string ⟨qd.toArray⟩, .int .u8 (qt : Int), .int .i64 a0, .slice (some ⟨g2, 0, none⟩) 10 cap2] 41) := ⟨_, rfl⟩
      rw [← hW5]
      have hB5 : Below wr.heap.size wr W5 := by rw [hW5]; exact (Below.refl _ wr).alloc (Nat.le_refl _) _
      have hH5 : W5.heap[wr.heap.size]? = some (.cells #[.string ⟨qd.toArray⟩, .int .u8 (qt : Int), .int .i64 a0, .slice (some ⟨g2, 0, none⟩) 10 cap2] 41 (0, 0)) := by rw [hW5]; exact ha_eq rfl
      have hBw5 : Below w.heap.size w W5 := HR.out.2.1.trans (Below.less hB5 HR.out.2.1.size)
      have hgl5 : Glob W5 := HH.out.2.2.2.2.1.below hBw5 (by obtain ⟨m, hm⟩ := HH.out.2.2.2.2.1; exact cell_lt hm)
      have hmt5 : MayT W5 := HH.out.2.2.2.2.2.below hBw5 (cell_lt (HH.out.2.2.2.2.2 0 (by omega)))
      have hrw := HR.out.2.2.2.1
      have hC := counted_good W5 qd qt a0 a1 a2 a3 a4 a5 a6 a7 a8 a9 a10 g2 cap2 hrw.pos hrw.kind hrw.kind0 hrw.may hrw.some_ (fun k hk => (hB5.cell (p := ⟨g2, k, none⟩) (cell_lt (HR.out.2.2.2.2.1 k hk))).trans (HR.out.2.2.2.2.1 k hk)) HR.out.2.2.2.2.2 hgl5 hmt5 hrw.dom hrw.typ
      have H5 := Lib.hid (And.intro hB5 (And.intro hH5 hBw5))
      clear hW5 hB5 hH5 hBw5 hgl5 hmt5 hrw x0 x1 x2' x3
      refine hC.mono ?_
      rintro e W6 ⟨rfl, hB6⟩
      have hr5 : wr.heap.size < W5.heap.size := (Array.getElem?_eq_some_iff.1 H5.out.2.1).1
      have hH6 := (hB6.block _ hr5).trans H5.out.2.1
      have hBw6 : Below w.heap.size w W6 := H5.out.2.2.trans (Below.less hB6 H5.out.2.2.size)
      have hB56 : Below wr.heap.size wr W6 := H5.out.1.trans (Below.less hB6 (by omega))
      have y0 : W6.cell? ⟨wr.heap.size, 0, none⟩ = some (.string ⟨qd.toArray⟩) := by simp [World.cell?, hH6]
      have y1 : W6.cell? ⟨wr.heap.size, 1, none⟩ = some (.int .u8 (qt : Int)) := by simp [World.cell?, hH6]
      have hw6 : ¬ wr.heap.size = W6.heap.size := by
        have := hB6.size
        omega
      have z0 : ∀ o, (W6.alloc o).cell? ⟨wr.heap.size, 0, none⟩ = some (.string ⟨qd.toArray⟩) := fun o => (World.cell?_of_block (ha_ne hw6)).trans y0
      have z1 : ∀ o, (W6.alloc o).cell? ⟨wr.heap.size, 1, none⟩ = some (.int .u8 (qt : Int)) := fun o => (World.cell?_of_block (ha_ne hw6)).trans y1
      have H6 := Lib.hid (And.intro hBw6 hB56)
      clear hC hB6 hr5 hH6 hBw6 hB56
      unfold eV
      simp only [List.map_cons, List.map_nil]
      go_wp2_with fail
      obtain ⟨W8, hW8⟩ : ∃ W8, W8 = (W6.alloc (.cells #[.int .i64 a0, .int .i64 a1, .int .i64 a2, .int .i64 a3, .int .i64 a4, .int .i64 a5, .int .i64 a6, .int .i64 a7, .int .i64 a8, .int .i64 a9, .int .i64 a10] 82)).alloc (.cells #[.string ⟨qd.toArray⟩, .int .u8 (qt : Int)] 78) := ⟨_, rfl⟩
      rw [← hW8]
      have hB8 : Below W6.heap.size W6 W8 := by rw [hW8]; exact ((Below.refl _ W6).alloc (Nat.le_refl _) _).alloc (by simp) _
      have hc8 : W8.heap[W6.heap.size]? = some (.cells #[.int .i64 a0, .int .i64 a1, .int .i64 a2, .int .i64 a3, .int .i64 a4, .int .i64 a5, .int .i64 a6, .int .i64 a7, .int .i64 a8, .int .i64 a9, .int .i64 a10] 82 (0, 0)) := by rw [hW8]; exact (ha_ne (by simp)).trans (ha_eq rfl)
      have hp8 : W8.heap[W6.heap.size + 1]? = some (.cells #[.string ⟨qd.toArray⟩, .int .u8 (qt : Int)] 78 (0, 0)) := by rw [hW8]; exact ha_eq (by simp)
      have H8 := Lib.hid (And.intro hB8 (And.intro hc8 hp8))
      clear hW8 hB8 hc8 hp8 z0 z1 y0 y1
      by_cases hi0 : i = 0
      · have hiz : ¬ (0 : Int) < (i : Int) := by omega
        go_quiet (fail)
        obtain ⟨W9, hW9⟩ : ∃ W9, W9 = W8.drewN nq := ⟨_, rfl⟩
        rw [← hW9]
        have hB9 : Below W8.heap.size W8 W9 := by rw [hW9]; exact below_drewN (Below.refl _ W8) nq
        have hB89 : Below W6.heap.size W6 W9 := H8.out.1.trans (Below.less hB9 H8.out.1.size)
        have hB79 : Below wr.heap.size wr W9 := H6.out.2.trans (Below.less hB89 H6.out.2.size)
        have HB9 := Lib.hid (Below3.mk hB9 hB79 hB89)
        clear hW9 hB9 hB89 hB79
        have hT9 : TallyAt W9 (w.heap.size + 1) w.heap.size names (xs.take i) := HR.out.1.below HB9.out.h2 (by have := HR.out.1.lt; omega) (by have := HR.out.1.lt; omega)
        have hc9 := (HB9.out.h1.block _ (Array.getElem?_eq_some_iff.1 H8.out.2.1).1).trans H8.out.2.1
        have hp9 := (HB9.out.h1.block _ (Array.getElem?_eq_some_iff.1 H8.out.2.2).1).trans H8.out.2.2
        have t1 : W9.cell? ⟨w.heap.size + 1, 1, none⟩ = some (.map (some w.heap.size)) := hT9.obj.2
        have k0 : W9.cell? ⟨W6.heap.size + 1, 0, none⟩ = some (.string ⟨qd.toArray⟩) := by simp [World.cell?, hp9]
        have k1 : W9.cell? ⟨W6.heap.size + 1, 1, none⟩ = some (.int .u8 (qt : Int)) := by simp [World.cell?, hp9]
        have c0 : W9.cell? ⟨W6.heap.size, 0, none⟩ = some (.int .i64 a0) := by simp [World.cell?, hc9]
        have c1 : W9.cell? ⟨W6.heap.size, 1, none⟩ = some (.int .i64 a1) := by simp [World.cell?, hc9]
        have c2 : W9.cell? ⟨W6.heap.size, 2, none⟩ = some (.int .i64 a2) := by simp [World.cell?, hc9]
        have c3 : W9.cell? ⟨W6.heap.size, 3, none⟩ = some (.int .i64 a3) := by simp [World.cell?, hc9]
        have c4 : W9.cell? ⟨W6.heap.size, 4, none⟩ = some (.int .i64 a4) := by simp [World.cell?, hc9]
        have c5 : W9.cell? ⟨W6.heap.size, 5, none⟩ = some (.int .i64 a5) := by simp [World.cell?, hc9]
        have c6 : W9.cell? ⟨W6.heap.size, 6, none⟩ = some (.int .i64 a6) := by simp [World.cell?, hc9]
        have c7 : W9.cell? ⟨W6.heap.size, 7, none⟩ = some (.int .i64 a7) := by simp [World.cell?, hc9]
        have c8 : W9.cell? ⟨W6.heap.size, 8, none⟩ = some (.int .i64 a8) := by simp [World.cell?, hc9]
        have c9 : W9.cell? ⟨W6.heap.size, 9, none⟩ = some (.int .i64 a9) := by simp [World.cell?, hc9]
        have c10 : W9.cell? ⟨W6.heap.size, 10, none⟩ = some (.int .i64 a10) := by simp [World.cell?, hc9]
        obtain ⟨ob, hrun, hmap⟩ := run_update_at (w := W9.drew) placeLaw Tryd.underlying72 (mapAt_drew hT9.2) (qd, qt) [a0, a1, a2, a3, a4, a5, a6, a7, a8, a9, a10]
        rw [put_new (by have := asc_fresh HH.out.2.2.1 hlast; rw [hq] at this; exact this)] at hmap
        have htk : xs.take (i + 1) = xs.take i ++ [((qd, qt), [a0, a1, a2, a3, a4, a5, a6, a7, a8, a9, a10])] := by rw [List.take_succ_eq_append_getElem hlast, hq]
        rw [← htk] at hmap
        have hg10 := grown_put1 W9 ob w.heap.size
        have hT10 : TallyAt (W9.drew.putObj w.heap.size ob) (w.heap.size + 1) w.heap.size names (xs.take (i + 1)) := ⟨(hg10.block _ hT9.lt (fun e => by have := Option.some.inj e; omega)).trans hT9.1, hmap⟩
        have hB10 : Below w.heap.size w (W9.drew.putObj w.heap.size ob) := (H6.out.1.trans (Below.less HB9.out.h3 H6.out.1.size)).grown hg10 (by have := H6.out.1.size; have := HB9.out.h3.size; omega) (fun k e => by have := Option.some.inj e; omega)
        have H10 := Lib.hid (And.intro hT10 hB10)
        clear hT9 hc9 hp9 hmap htk hg10 hT10 hB10
        unfold eK str eV at hrun
        simp only [List.map_cons, List.map_nil] at hrun
        go_wp2_with fail
        refine wp_region_still_tail 6 (by kernel_rfl) (by kernel_rfl) ?_
        simp only [List.take_succ_cons, List.take_zero, List.drop_succ_cons, List.drop_zero]
        show wpStill Tryd.prog _ (World.drew _) (fun a' => wpList _ _ _ _ a' (World.drew _)) _ _
        repeat still_step
        refine wpStill_nil ?_
        go_wp2
        go_roundw
        case rel => exact ⟨i + 1, by have h0 : i = 0 := (by omega); simp [h0], by omega, H10.out.1, H10.out.2⟩
        case measure => simp [natOf]; omega
      · obtain ⟨j, hj⟩ : ∃ j, i = j + 1 := ⟨i - 1, by omega⟩
        have hiz : (0 : Int) < (i : Int) := by omega
        have hsub : (i : Int) - 1 = (j : Int) := by omega
        have hjl : (j : Int) < (xs.length : Int) := by omega
        have hwr : IntKind.i64.wrap ((i : Int) - 1) = (j : Int) := by
          rw [hsub]
          simp [IntKind.wrap, IntKind.bits, IntKind.signed]
          omega
        have hwr2 : wrap64 ((i : Int) - 1) = (j : Int) := by rw [hsub]; unfold wrap64; omega
        have hBw8 : Below w.heap.size w W8 := H6.out.1.trans (Below.less H8.out.1 H6.out.1.size)
        obtain ⟨g', g2', cap2', e1, -, ⟨u0, u1, -, -, -⟩, -, -⟩ := HH.out.1 W8 hBw8 j (by omega)
        injection e1 with e1
        injection e1 with e1
        subst e1
        have hlt := asc_step HH.out.2.2.1 (i := j) (by omega)
        generalize hqj : xs[j] = qj at *
        obtain ⟨⟨jd, jt⟩, jc⟩ := qj
        dsimp only at u0 u1
        have hqi : xs[j + 1].1 = (qd, qt) := by
          have : xs[j + 1]'(by omega) = xs[i] := by simp [hj]
          rw [this, hq]
        rw [hqi] at hlt
        have k0 : W8.cell? ⟨W6.heap.size + 1, 0, none⟩ = some (.string ⟨qd.toArray⟩) := by simp [World.cell?, H8.out.2.2]
        have k1 : W8.cell? ⟨W6.heap.size + 1, 1, none⟩ = some (.int .u8 (qt : Int)) := by simp [World.cell?, H8.out.2.2]
        have hAh := ahead_any ⟨jd.toArray⟩ ⟨qd.toArray⟩ (jt : Int) (qt : Int) W8.drew
        have HJ := Lib.hid hlt
        clear hlt hqj hqi hBw8
        have hwr3 : IntKind.i64.wrap (j : Int) = (j : Int) := by rw [← hsub]; exact hwr.trans hsub.symm
        have HJ2 := Lib.hid hj
        have hiN : 0 < i := by omega
        have hiD : decide (0 < i) = true := decide_eq_true hiN
        clear hj
        refine wp_region_still_tail 20 (by kernel_rfl) (by kernel_rfl) ?_
        simp only [List.take_succ_cons, List.take_zero, List.drop_succ_cons, List.drop_zero]
        show wpStill Tryd.prog _ (World.drew _) (fun a' => wpList _ _ _ _ a' (World.drew _)) _ _
        repeat still_step
        refine wpStill_nil ?_
        go_wp2_with fail
        refine hAh.mono ?_
        rintro e W9 ⟨rfl, os, hW9⟩
        have hB9 : Below W8.heap.size W8 W9 := by
          rw [hW9]
          exact ((Below.refl _ W8).drew.trans (below_drewN (Below.refl _ W8.drew) 1)).trans (below_grow (W8.drew.drewN 1) os)
        have hzn : ¬ (0 : Int) ≤ cmpP (jd, jt) (qd, qt) := by have := HJ.out; omega
        have hzv : orI (Lib.compareBytes (⟨jd.toArray⟩ : ByteArray).data.toList (⟨qd.toArray⟩ : ByteArray).data.toList) (cmpInt (jt : Int) (qt : Int)) = cmpP (jd, jt) (qd, qt) := rfl
        rw [hzv]
        generalize cmpP (jd, jt) (qd, qt) = z at hzn
        have hB89 : Below W6.heap.size W6 W9 := H8.out.1.trans (Below.less hB9 H8.out.1.size)
        have hB79 : Below wr.heap.size wr W9 := H6.out.2.trans (Below.less hB89 H6.out.2.size)
        have HB9 := Lib.hid (Below3.mk hB9 hB79 hB89)
        clear hW9 hB9 hB89 hB79 hAh hzv k0 k1 u0 u1
        have hT9 : TallyAt W9 (w.heap.size + 1) w.heap.size names (xs.take i) := HR.out.1.below HB9.out.h2 (by have := HR.out.1.lt; omega) (by have := HR.out.1.lt; omega)
        have hc9 := (HB9.out.h1.block _ (Array.getElem?_eq_some_iff.1 H8.out.2.1).1).trans H8.out.2.1
        have hp9 := (HB9.out.h1.block _ (Array.getElem?_eq_some_iff.1 H8.out.2.2).1).trans H8.out.2.2
        have t1 : W9.cell? ⟨w.heap.size + 1, 1, none⟩ = some (.map (some w.heap.size)) := hT9.obj.2
        have k0 : W9.cell? ⟨W6.heap.size + 1, 0, none⟩ = some (.string ⟨qd.toArray⟩) := by simp [World.cell?, hp9]
        have k1 : W9.cell? ⟨W6.heap.size + 1, 1, none⟩ = some (.int .u8 (qt : Int)) := by simp [World.cell?, hp9]
        have c0 : W9.cell? ⟨W6.heap.size, 0, none⟩ = some (.int .i64 a0) := by simp [World.cell?, hc9]
        have c1 : W9.cell? ⟨W6.heap.size, 1, none⟩ = some (.int .i64 a1) := by simp [World.cell?, hc9]
        have c2 : W9.cell? ⟨W6.heap.size, 2, none⟩ = some (.int .i64 a2) := by simp [World.cell?, hc9]
        have c3 : W9.cell? ⟨W6.heap.size, 3, none⟩ = some (.int .i64 a3) := by simp [World.cell?, hc9]
        have c4 : W9.cell? ⟨W6.heap.size, 4, none⟩ = some (.int .i64 a4) := by simp [World.cell?, hc9]
        have c5 : W9.cell? ⟨W6.heap.size, 5, none⟩ = some (.int .i64 a5) := by simp [World.cell?, hc9]
        have c6 : W9.cell? ⟨W6.heap.size, 6, none⟩ = some (.int .i64 a6) := by simp [World.cell?, hc9]
        have c7 : W9.cell? ⟨W6.heap.size, 7, none⟩ = some (.int .i64 a7) := by simp [World.cell?, hc9]
        have c8 : W9.cell? ⟨W6.heap.size, 8, none⟩ = some (.int .i64 a8) := by simp [World.cell?, hc9]
        have c9 : W9.cell? ⟨W6.heap.size, 9, none⟩ = some (.int .i64 a9) := by simp [World.cell?, hc9]
        have c10 : W9.cell? ⟨W6.heap.size, 10, none⟩ = some (.int .i64 a10) := by simp [World.cell?, hc9]
        obtain ⟨ob, hrun, hmap⟩ := run_update_at (w := W9.drew) placeLaw Tryd.underlying72 (mapAt_drew hT9.2) (qd, qt) [a0, a1, a2, a3, a4, a5, a6, a7, a8, a9, a10]
        rw [put_new (by have := asc_fresh HH.out.2.2.1 hlast; rw [hq] at this; exact this)] at hmap
        have htk : xs.take (i + 1) = xs.take i ++ [((qd, qt), [a0, a1, a2, a3, a4, a5, a6, a7, a8, a9, a10])] := by rw [List.take_succ_eq_append_getElem hlast, hq]
        rw [← htk] at hmap
        have hg10 := grown_put1 W9 ob w.heap.size
        have hT10 : TallyAt (W9.drew.putObj w.heap.size ob) (w.heap.size + 1) w.heap.size names (xs.take (i + 1)) := ⟨(hg10.block _ hT9.lt (fun e => by have := Option.some.inj e; omega)).trans hT9.1, hmap⟩
        have hB10 : Below w.heap.size w (W9.drew.putObj w.heap.size ob) := (H6.out.1.trans (Below.less HB9.out.h3 H6.out.1.size)).grown hg10 (by have := H6.out.1.size; have := HB9.out.h3.size; omega) (fun k e => by have := Option.some.inj e; omega)
        have H10 := Lib.hid (And.intro hT10 hB10)
        clear hT9 hc9 hp9 hmap htk hg10 hT10 hB10
        unfold eK str eV at hrun
        simp only [List.map_cons, List.map_nil] at hrun
        go_wp2_with fail
        refine wp_region_still_tail 6 (by kernel_rfl) (by kernel_rfl) ?_
        simp only [List.take_succ_cons, List.take_zero, List.drop_succ_cons, List.drop_zero]
        show wpStill Tryd.prog _ (World.drew _) (fun a' => wpList _ _ _ _ a' (World.drew _)) _ _
        repeat still_step
        refine wpStill_nil ?_
        go_wp2
        go_roundw
        case rel => exact ⟨i + 1, by simp, by omega, H10.out.1, H10.out.2⟩
        case measure => simp [natOf]; omega
    · have hli : ¬ (i : Int) < (xs.length : Int) := by omega
      obtain rfl : i = xs.length := by omega
      rw [List.take_length] at hTr
      have hD := domains_any' (w.heap.size + 1) w.heap.size names xs wr hTr (by omega)
      have HR := Lib.hid (And.intro hTr hBr)
      clear hTr hBr hi
      go_wp2_with fail
      refine hD.mono ?_
      rintro e w6 ⟨vd, rfl, hod, hB6⟩
      have hsh : ∃ pd cd, vd = .slice pd (domsL xs).length cd := by
        rcases hod.2 with ⟨rfl, h0⟩ | ⟨g, cap, cur, rfl, _⟩
        · exact ⟨none, 0, by rw [h0]⟩
        · exact ⟨_, _, rfl⟩
      obtain ⟨pd, cd, rfl⟩ := hsh
      have hroom := HH.out.2.2.2.1
      have hnr : ¬ names < ((domsL xs).length : Int) := by omega
      have HF := Lib.hid (And.intro (HR.out.1.below hB6 (by have := HR.out.1.lt; omega) (by have := HR.out.1.lt; omega)) (HR.out.2.trans (Below.less hB6 HR.out.2.size)))
      clear hD hod hB6 hroom
      go_wp2
      refine bodyPost_ret (v := .tuple #[.pointer (some ⟨w.heap.size + 1, 0, none⟩), .int .i64 0]) (by simp [results, Tryd.results27, go_sem]) rfl ⟨rfl, HF.out.1, HF.out.2⟩
end Go.Proofs.YthhcigmdocldnaaDoor
