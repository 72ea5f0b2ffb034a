/- The contract of package tally's Same, at rows that are the same. -/
import Derived.Test.YthhcigmdocldnaaDoorShelf
import Derived.Test.YthhcigmdocldnaaDoorOfB
namespace Go.Proofs.YthhcigmdocldnaaDoor
open Go Go.RowKit Go.Shelf Go.Sort

set_option maxRecDepth 100000 in
set_option maxHeartbeats 1000000 in
theorem sameOne (w : World) (ds : ByteArray) (t a : Int) (g g' c c' : Nat) (zs : List Int) (hz : zs.length = 10) (h1 : ∀ k, k < 10 → w.cell? ⟨g, k, none⟩ = some (.int .i64 (zs.getD k 0))) (h2 : ∀ k, k < 10 → w.cell? ⟨g', k, none⟩ = some (.int .i64 (zs.getD k 0))) :
    Calls Tryd.prog 52 #[.agg #[.string ds, .int .u8 t, .int .i64 a, .slice (some ⟨g, 0, none⟩) 10 c], .agg #[.string ds, .int .u8 t, .int .i64 a, .slice (some ⟨g', 0, none⟩) 10 c']] w fun e w' => e = .returned (.bool true) ∧ Below w.heap.size w w' := by
  have HH := Lib.hid (And.intro h1 h2)
  clear h1 h2
  go_enter Tryd.func52, Tryd.ntmps52
  have f : (ds.toList == ds.toList) = true := beq_self_eq_true _
  go_wp2_with fail
  obtain ⟨W, hW⟩ : ∃ W, W = (w.alloc (.cells #[.string ds, .int .u8 t, .int .i64 a, .slice (some ⟨g, 0, none⟩) 10 c] 41)).alloc (.cells #[.string ds, .int .u8 t, .int .i64 a, .slice (some ⟨g', 0, none⟩) 10 c'] 41) := ⟨_, rfl⟩
  rw [← hW]
  have hB : Below w.heap.size w W := by rw [hW]; exact ((Below.refl _ w).alloc (Nat.le_refl _) _).alloc (by simp) _
  have hE := Tryd.slices_Equal_int g 0 10 c g' 0 10 c' zs zs W (by omega) (by omega) (by omega) (by omega) (fun j hj => by rw [Nat.zero_add]; have hc := HH.out.1 j (by omega); exact (hB.cell (p := ⟨g, j, none⟩) (cell_lt hc)).trans hc) (fun j hj => by rw [Nat.zero_add]; have hc := HH.out.2 j (by omega); exact (hB.cell (p := ⟨g', j, none⟩) (cell_lt hc)).trans hc)
  have HB := Lib.hid hB
  clear hW hB
  refine hE.mono ?_
  rintro e w' ⟨rfl, q, rfl⟩
  rw [beq_self_eq_true]
  clear hE
  go_wp2
  refine bodyPost_ret (v := .bool true) (by simp [results, Tryd.results52, go_sem]) rfl ⟨rfl, below_drewN HB.out q⟩

set_option maxRecDepth 100000 in
set_option maxHeartbeats 1000000 in
theorem equalFunc_eq (w : World) (base : Nat) (v u : Value) (xs : Ent) (h : RowsT 41 w base v xs) (h' : RowsT 41 w base u xs) (hx : ∀ x ∈ xs, x.2.length = 11) (hxl : xs.length ≤ 1000000) :
    Calls Tryd.prog 51 #[v, u, .func (.func 52) #[] #[]] w fun e w' => e = .returned (.bool true) ∧ Below w.heap.size w w' := by
  have hsh : ∃ pr cr, v = .slice pr xs.length cr := by
    obtain ⟨vs, _, _, hvo⟩ := h
    rcases hvo.2 with ⟨rfl, h0⟩ | ⟨g, cap, cur, rfl, _⟩
    · exact ⟨none, 0, by rw [h0]⟩
    · exact ⟨_, _, rfl⟩
  obtain ⟨pr, cr, rfl⟩ := hsh
  have hsh : ∃ pr cr, u = .slice pr xs.length cr := by
    obtain ⟨vs, _, _, hvo⟩ := h'
    rcases hvo.2 with ⟨rfl, h0⟩ | ⟨g, cap, cur, rfl, _⟩
    · exact ⟨none, 0, by rw [h0]⟩
    · exact ⟨_, _, rfl⟩
  obtain ⟨pu, cu, rfl⟩ := hsh
  have hcA : ∀ W, Below w.heap.size w W → ∀ i (hi : i < xs.length), ∃ g g2 cap2, pr = some ⟨g, 0, none⟩ ∧ xs.length ≤ cr ∧ W4 W g i xs[i] g2 cap2 := by
    intro W hBW i hi
    obtain ⟨vs, hvl, hvf, hvo⟩ := h.below hBW
    obtain ⟨g, g2, cap2, e, hcr, x0, x1, x2, x3, x4, x5⟩ := rows_at hvl hvf hvo hx hi
    exact ⟨g, g2, cap2, e, hcr, ⟨x0, x1, x2, x3, x5⟩⟩
  have hcB : ∀ W, Below w.heap.size w W → ∀ i (hi : i < xs.length), ∃ g g2 cap2, pu = some ⟨g, 0, none⟩ ∧ xs.length ≤ cu ∧ W4 W g i xs[i] g2 cap2 := by
    intro W hBW i hi
    obtain ⟨vs, hvl, hvf, hvo⟩ := h'.below hBW
    obtain ⟨g, g2, cap2, e, hcr, x0, x1, x2, x3, x4, x5⟩ := rows_at hvl hvf hvo hx hi
    exact ⟨g, g2, cap2, e, hcr, ⟨x0, x1, x2, x3, x5⟩⟩
  have HH := Lib.hid (And.intro hcA (And.intro hcB hx))
  clear h h' hcA hcB hx
  go_enter Tryd.func51, Tryd.ntmps51
  go_wp2_with fail
  go_loopw [17] (fun iv wr => ∃ i : Nat, iv = .int .i64 (i : Int) ∧ i ≤ xs.length ∧ Below w.heap.size w wr)
    (fun iv _ => xs.length - natOf iv)
  case atStart => exact ⟨0, rfl, Nat.zero_le _, Below.refl _ _⟩
  case round =>
    obtain ⟨i, rfl, hi, hBr⟩ := hrel
    by_cases hlast : i < xs.length
    · have hli : (i : Int) < (xs.length : Int) := by omega
      obtain ⟨g, g2, cap2, rfl, hcr, ⟨x0, x1, x2, x3, x5⟩⟩ := HH.out.1 wr hBr i hlast
      obtain ⟨g', g2', cap2', rfl, hcu, ⟨y0, y1, y2, y3, y5⟩⟩ := HH.out.2.1 wr hBr i hlast
      have h11 := HH.out.2.2 xs[i] (List.getElem_mem hlast)
      generalize xs[i] = q at *
      obtain ⟨⟨qd, qt⟩, qc⟩ := q
      dsimp only at x0 x1 x2 x5 y0 y1 y2 y5 h11
      have hzs : ∀ k, k < 10 → qc.getD (k + 1) 0 = (qc.drop 1).getD k 0 := fun k _ => by simp [List.getD_eq_getElem?_getD]
      have HR := Lib.hid (And.intro hBr (And.intro hi (And.intro x5 (And.intro y5 (And.intro h11 hzs)))))
      clear hBr hi x5 y5 h11 hzs
      generalize qc.getD 0 0 = qa at *
      generalize (⟨qd.toArray⟩ : ByteArray) = sd at *
      have n1 : ∀ o, (wr.alloc o).cell? ⟨g', i * 4, none⟩ = some (.string sd) := fun o => (World.cell?_of_block (ha_ne (Nat.ne_of_lt (cell_lt y0)))).trans y0
      have n2 : ∀ o, (wr.alloc o).cell? ⟨g', i * 4 + 1, none⟩ = some (.int .u8 (qt : Int)) := fun o => (World.cell?_of_block (ha_ne (Nat.ne_of_lt (cell_lt y1)))).trans y1
      have n3 : ∀ o, (wr.alloc o).cell? ⟨g', i * 4 + 2, none⟩ = some (.int .i64 qa) := fun o => (World.cell?_of_block (ha_ne (Nat.ne_of_lt (cell_lt y2)))).trans y2
      have n4 : ∀ o, (wr.alloc o).cell? ⟨g', i * 4 + 3, none⟩ = some (.slice (some ⟨g2', 0, none⟩) 10 cap2') := fun o => (World.cell?_of_block (ha_ne (Nat.ne_of_lt (cell_lt y3)))).trans y3
      clear y0 y1 y2 y3
      go_wp2_with fail
      obtain ⟨W, hW⟩ : ∃ W, W = (wr.alloc (.cells #[.string sd, .int .u8 (qt : Int), .int .i64 qa, .slice (some ⟨g2, 0, none⟩) 10 cap2] 41)).alloc (.cells #[.string sd, .int .u8 (qt : Int), .int .i64 qa, .slice (some ⟨g2', 0, none⟩) 10 cap2'] 41) := ⟨_, rfl⟩
      rw [← hW]
      have hB : Below wr.heap.size wr W := by rw [hW]; exact ((Below.refl _ wr).alloc (Nat.le_refl _) _).alloc (by simp) _
      have hS := sameOne W sd (qt : Int) qa g2 g2' cap2 cap2' (qc.drop 1) (by have := HR.out.2.2.2.2.1; simp; omega)
        (fun k hk => by rw [← HR.out.2.2.2.2.2 k hk]; have hc := HR.out.2.2.1 k hk; exact (hB.cell (p := ⟨g2, k, none⟩) (cell_lt hc)).trans hc)
        (fun k hk => by rw [← HR.out.2.2.2.2.2 k hk]; have hc := HR.out.2.2.2.1 k hk; exact (hB.cell (p := ⟨g2', k, none⟩) (cell_lt hc)).trans hc)
      have HB := Lib.hid (HR.out.1.trans (Below.less hB HR.out.1.size))
      clear hW hB n1 n2 n3 n4 x0 x1 x2 x3
      refine hS.mono ?_
      rintro e w6 ⟨rfl, hB6⟩
      have HB6 := Lib.hid (HB.out.trans (Below.less hB6 HB.out.size))
      clear hS hB6
      go_wp2
      go_roundw
      case rel => exact ⟨i + 1, by simp, by omega, HB6.out⟩
      case measure => simp [natOf]; omega
    · have hli : ¬ (i : Int) < (xs.length : Int) := by omega
      obtain rfl : i = xs.length := by omega
      have HB := Lib.hid hBr
      clear hBr
      go_wp2
      refine bodyPost_ret (v := .bool true) (by simp [results, Tryd.results51, go_sem]) rfl ⟨rfl, HB.out⟩

set_option maxRecDepth 100000 in
theorem sameT_eq (w : World) (base : Nat) (v u : Value) (xs : Ent) (h : RowsT 41 w base v xs) (h' : RowsT 41 w base u xs) (hx : ∀ x ∈ xs, x.2.length = 11) (hxl : xs.length ≤ 1000000) :
    Calls Tryd.prog 28 #[v, u] w fun e w' => e = .returned (.bool true) ∧ Below w.heap.size w w' := by
  have hE := equalFunc_eq w base v u xs h h' hx hxl
  clear h h' hx hxl
  go_enter Tryd.func28, Tryd.ntmps28
  go_wp2_with fail
  refine hE.mono ?_
  rintro e w' ⟨rfl, hB⟩
  have HB := Lib.hid hB
  clear hE hB
  go_wp2
  refine bodyPost_ret (v := .bool true) (by simp [results, Tryd.results28, go_sem]) rfl ⟨rfl, HB.out⟩
end Go.Proofs.YthhcigmdocldnaaDoor
