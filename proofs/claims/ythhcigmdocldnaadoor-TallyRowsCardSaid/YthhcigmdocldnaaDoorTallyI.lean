/- The contracts of package tally: Rows. -/
import Derived.Test.YthhcigmdocldnaaDoorTallyH
import Derived.Deep.AppendLies
namespace Go.Proofs.YthhcigmdocldnaaDoor
open Go Go.RowKit Go.Shelf Go.Sort

theorem keys_any (bm : Nat) (w : World) :
    Calls Tryd.prog 37 #[.map (some bm)] w fun e w' => e = .returned (.func (.func 58) #[] #[.pointer (some ⟨w.heap.size, 0, none⟩)]) ∧ w.alloc (.cells #[.map (some bm)] 72) = w' := by
  go_enter Tryd.func37, Tryd.ntmps37
  go_wp2
  go_ret
  exact ⟨rfl, rfl⟩

/-- The list of entries in the order of the places. -/
def rowsOf (l : Ent) (ps : List (Bytes × Nat)) : Ent := ps.map fun p => (p, cnt l p)
/-- A row's counts behind the first, as they lie in memory. -/
def FailsAt (W : World) (base : Nat) (c : List Int) (v : Value) : Prop :=
  ∃ g cap cur, v = .slice (some ⟨g, 0, none⟩) 10 cap ∧ base ≤ g ∧ W.heap[g]? = some (.cells cur 3 (0, 0)) ∧ 10 ≤ cap ∧ cap ≤ maxLen ∧ cur.size = cap ∧ cur.toList.take 10 = (c.drop 1).map (Value.int .i64)
def rowCells (x : ((Bytes × Nat) × List Int) × Value) : List Value := [str x.1.1.1, .int .u8 (x.1.1.2 : Int), .int .i64 (x.1.2.getD 0 0), x.2]
/-- Rows in memory. -/
def RowsAt (W : World) (base : Nat) (v : Value) (xs : Ent) : Prop :=
  ∃ vs : List Value, vs.length = xs.length ∧ (∀ i (h1 : i < xs.length) (h2 : i < vs.length), FailsAt W base xs[i].2 vs[i]) ∧ W.ownsRow base 41 4 v xs.length ((xs.zip vs).flatMap rowCells)
theorem FailsAt.kept {W W' : World} {base : Nat} {c : List Int} {v : Value} {row : Option Nat} (h : FailsAt W base c v) (hg : W.grownBy W' row) (hr : ∀ r, row = some r → ∃ o : Obj, W.heap[r]? = some o ∧ ∀ cur, o ≠ .cells cur 3 (0, 0)) : FailsAt W' base c v := by
  obtain ⟨g, cap, cur, rfl, hb, hh, rest⟩ := h
  exact ⟨g, cap, cur, rfl, hb, (hg.block g (Array.getElem?_eq_some_iff.1 hh).1 (fun e => by
    obtain ⟨o, ho, hn⟩ := hr g e.symm
    rw [hh] at ho; cases ho; exact hn cur rfl)).trans hh, rest⟩
theorem RowsAt.nil (W : World) (base : Nat) : RowsAt W base (.slice none 0 0) [] := ⟨[], rfl, fun i h => by simp at h, ⟨rfl, .inl ⟨rfl, rfl⟩⟩⟩

theorem infoR : (Tryd.prog.info? 41).map (fun i => (i.zero, i.size, i.bytes)) = some (some (.agg #[.string ⟨#[]⟩, .int .u8 0, .int .i64 0, .slice none 0 0]), 4, 56) := by kernel_rfl
theorem own_below {W W' : World} {base : Nat} {e : TypeId} {size : Nat} {v : Value} {k : Nat} {xs : List Value} (h : W.ownsRow base e size v k xs) {n₀ : Nat} (hb : Below n₀ W W') (hn : n₀ = W.heap.size := by first | rfl | omega) : W'.ownsRow base e size v k xs := by
  subst hn
  exact h.kept (grownBy_of_below hb none) (by cases v.ownBlock with
    | none => exact .inl rfl
    | some _ => exact .inr (by simp))
theorem far3 {W W' : World} {row : Option Nat} {n : Nat} {a : Addr} {v : Value} (hg : W.grownBy W' row) (hr : ∀ k, row = some k → k < n) (ha : a.block < W.heap.size) (hn : n ≤ a.block) (h : W.cell? a = some v) : W'.cell? a = some v :=
  (World.cell?_of_block (hg.block a.block ha (fun e => by have := hr _ e.symm; omega))).trans h
theorem cell_four {w : World} {x0 x1 x2 x3 : Value} {t : TypeId} {k : Nat} (hk : k = w.heap.size) : ∀ j u, [x0, x1, x2, x3][j]? = some u → (w.alloc (.cells #[x0, x1, x2, x3] t)).cell? ((⟨k, 0, none⟩ : Addr).add j) = some u := by
  subst hk
  intro j u hj
  match j, hj with
  | 0, hj => simp at hj; subst hj; simp [Addr.add]
  | 1, hj => simp at hj; subst hj; simp [Addr.add]
  | 2, hj => simp at hj; subst hj; simp [Addr.add]
  | 3, hj => simp at hj; subst hj; simp [Addr.add]
theorem FailsAt.base {W : World} {base base' : Nat} {c : List Int} {v : Value} (h : FailsAt W base c v) (hb : base' ≤ base) : FailsAt W base' c v := by
  obtain ⟨g, cap, cur, e, hg, rest⟩ := h
  exact ⟨g, cap, cur, e, Nat.le_trans hb hg, rest⟩
theorem row_obj {W : World} {base : Nat} {e t : TypeId} {size : Nat} {v : Value} {k : Nat} {xs : List Value} (h : W.ownsRow base e size v k xs) (hne : e ≠ t) : ∀ r, v.ownBlock = some r → ∃ o : Obj, W.heap[r]? = some o ∧ ∀ cur, o ≠ .cells cur t (0, 0) := fun r hr => by
  rcases h.2 with ⟨rfl, _⟩ | ⟨g, cap, cur, rfl, _, hgb, _⟩
  · simp [Value.ownBlock] at hr
  · have : g = r := by simpa [Value.ownBlock] using hr
    subst this
    exact ⟨_, hgb, fun cur e => hne (Obj.cells.inj e).2.1⟩
theorem RowsAt.snoc {W : World} {base : Nat} {v : Value} {xs : Ent} {vs : List Value} (hvl : vs.length = xs.length) (hf : ∀ i (h1 : i < xs.length) (h2 : i < vs.length), FailsAt W base xs[i].2 vs[i]) (x : (Bytes × Nat) × List Int) (u : Value) (hx : FailsAt W base x.2 u)
    (ho : W.ownsRow base 41 4 v (xs.length + 1) ((xs.zip vs).flatMap rowCells ++ rowCells (x, u))) : RowsAt W base v (xs ++ [x]) := by
  refine ⟨vs ++ [u], by simp [hvl], fun i h1 h2 => ?_, ?_⟩
  · by_cases hi : i < xs.length
    · rw [List.getElem_append_left hi, List.getElem_append_left (by omega)]
      exact hf i hi (by omega)
    · have e : i = xs.length := by simp at h1; omega
      subst e
      rw [List.getElem_append_right (Nat.le_refl _), List.getElem_append_right (by omega)]
      simpa [hvl] using hx
  · rw [List.zip_append hvl.symm, List.flatMap_append]
    simpa using ho
theorem RowsAt.base {W : World} {base base' : Nat} {v : Value} {xs : Ent} (h : RowsAt W base v xs) (hb : base' ≤ base) : RowsAt W base' v xs := by
  obtain ⟨vs, hl, hf, ho⟩ := h
  refine ⟨vs, hl, fun i h1 h2 => ?_, ?_⟩
  · obtain ⟨g, cap, cur, e, hg, rest⟩ := hf i h1 h2
    exact ⟨g, cap, cur, e, Nat.le_trans hb hg, rest⟩
  · refine ⟨ho.1, ?_⟩
    rcases ho.2 with h | ⟨g, cap, cur, e, hg, rest⟩
    · exact .inl h
    · exact .inr ⟨g, cap, cur, e, Nat.le_trans hb hg, rest⟩
def natOf (v : Value) : Nat := match v with | .int _ k => k.toNat | _ => 0

set_option maxRecDepth 100000 in
set_option maxHeartbeats 1000000 in
theorem rowsE_any (b bm : Nat) (names : Int) (l : Ent) (w : World) (h : TallyAt w b bm names l) (h11 : ∀ p, (cnt l p).length = 11) (hl : l.length ≤ 1000000) :
    Calls Tryd.prog 12 #[.pointer (some ⟨b, 0, none⟩)] w fun e w' => ∃ v ps, e = .returned v ∧ Places l ps ∧ RowsAt w' w.heap.size v (rowsOf l ps) ∧ Below w.heap.size w w' := by
  have H11 := Lib.hid h11
  clear h11
  have hlt := h.lt
  have hbm := h.2.lt
  obtain ⟨c0, c1⟩ := h.obj
  have hK := keys_any bm w
  go_enter Tryd.func12, Tryd.ntmps12
  go_wp2_with fail
  refine hK.mono ?_
  rintro e w1 ⟨rfl, hw1⟩
  have hb1 : Below w.heap.size w w1 := by rw [← hw1]; exact (Below.refl _ _).alloc (Nat.le_refl _) _
  have hs1 : w1.heap.size = w.heap.size + 1 := by rw [← hw1]; simp
  have hm1 : w1.cell? ⟨w.heap.size, 0, none⟩ = some (.map (some bm)) := by rw [← hw1]; simp
  have hT1 := h.below hb1 hlt hbm
  have hS := sorted_in w.heap.size bm l w1 hm1 hT1.2 hl
  clear hw1 hK c0 c1
  go_wp2_with fail
  refine hS.mono ?_
  rintro e w2 ⟨v, ps, rfl, hP, ho, hb2⟩
  have hT2 := hT1.below hb2 (by omega) (by omega)
  have hb02 := hb1.trans (hb2.mono (by omega))
  have hplen : ps.length = l.length := by simpa using hP.perm.length_eq
  have hpl : ps.length ≤ 1000000 := by omega
  have hs2 := hb2.size
  obtain ⟨d0, d1⟩ := hT2.obj
  have HH := Lib.hid (And.intro hP (And.intro ho (And.intro hT2 hb02)))
  have hsh : ∃ p c, v = .slice p ps.length c := by
    rcases ho.2 with ⟨rfl, h0⟩ | ⟨g, cap, cur, rfl, _⟩
    · exact ⟨none, 0, by rw [h0]⟩
    · exact ⟨_, _, rfl⟩
  obtain ⟨p, c, rfl⟩ := hsh
  clear hS hP ho hT2 hb02 hT1 hb1 hb2 hm1 h hplen
  go_wp2_with fail
  go_loopw [3, 16] (fun v iv wr => ∃ i : Nat, iv = .int .i64 (i : Int) ∧ i ≤ ps.length ∧ RowsAt wr w2.heap.size v (rowsOf l (ps.take i)) ∧ Below w2.heap.size w2 wr)
    (fun _ iv _ => ps.length - natOf iv)
  case atStart => exact ⟨0, rfl, Nat.zero_le _, RowsAt.nil _ _, Below.refl _ _⟩
  case round =>
    obtain ⟨i, rfl, hi, hR, hB⟩ := hrel
    by_cases hlast : i < ps.length
    · have hli : (i : Int) < (ps.length : Int) := by omega
      have hT := HH.out.2.2.1.below hB (by omega) (by omega)
      obtain ⟨x0, x1⟩ := hT.obj
      obtain ⟨q, hq⟩ : ∃ q, q = ps[i] := ⟨_, rfl⟩
      have hcl : ∃ g, p = some ⟨g, 0, none⟩ ∧ ps.length ≤ c ∧ wr.cell? ⟨g, i * 2, none⟩ = some (str q.1) ∧ wr.cell? ⟨g, i * 2 + 1, none⟩ = some (.int .u8 (q.2 : Int)) := by
        rcases HH.out.2.1.2 with ⟨h0, _⟩ | ⟨g, cap, cur, e, hgb, hgc, hcap, hcm, hcs, htk⟩
        · injection h0 with _ h0; omega
        · injection e with e1 _ e3
          subst e1; subst e3
          have H := holdsK_own hgc htk
          unfold HoldsK at H
          rw [flatK_pc] at H
          have hg : g < w2.heap.size := (Array.getElem?_eq_some_iff.1 hgc).1
          have k0 := (H (i * 2) (by simp [pc_length]; omega)).1
          have k1 := (H (i * 2 + 1) (by simp [pc_length]; omega)).1
          have p0 := pc_get ps (i * 2) (by omega)
          have p1 := pc_get ps (i * 2 + 1) (by omega)
          rw [show i * 2 / 2 = i by omega, show i * 2 % 2 = 0 by omega] at p0
          rw [show (i * 2 + 1) / 2 = i by omega, show (i * 2 + 1) % 2 = 1 by omega] at p1
          refine ⟨g, rfl, hcap, (hB.cell (by exact hg)).trans ?_, (hB.cell (by exact hg)).trans ?_⟩
          · rw [Nat.zero_add] at k0
            rw [k0]
            simp [p0, hlast, hq, pcells]
          · rw [Nat.zero_add] at k1
            rw [k1]
            simp [p1, hlast, hq, pcells]
      obtain ⟨g, rfl, hpc, y0, y1⟩ := hcl
      have HR := Lib.hid (And.intro hR (And.intro hB hT))
      clear hR hB hT
      have hQ := Lib.hid hq
      clear hq
      unfold str at y0
      go_wp2_with fail
      obtain ⟨W3, hW3⟩ : ∃ W3, W3 = wr.alloc (.cells #[.string ⟨q.1.toArray⟩, .int .u8 (q.2 : Int)] 78) := ⟨_, rfl⟩
      rw [← hW3]
      have h11 := H11.out q
      obtain ⟨a0, a1, a2, a3, a4, a5, a6, a7, a8, a9, a10, hcnt⟩ := eleven h11
      have hB23 : Below wr.heap.size wr W3 := by rw [hW3]; exact (Below.refl _ _).alloc (Nat.le_refl _) _
      have hBs := HR.out.2.1.size
      have hT3 := HR.out.2.2.below hB23 (by omega) (by omega)
      obtain ⟨g0, g1⟩ := hT3.obj
      have hs3 : W3.heap.size = wr.heap.size + 1 := by rw [hW3]; simp
      have p0 : W3.cell? ⟨wr.heap.size, 0, none⟩ = some (.string ⟨q.1.toArray⟩) := by rw [hW3]; simp
      have p1 : W3.cell? ⟨wr.heap.size, 1, none⟩ = some (.int .u8 (q.2 : Int)) := by rw [hW3]; simp
      have HT3 := Lib.hid hT3
      have hl0 : (Instr.lookup 72 (.map (some bm)) (.agg #[.string ⟨q.1.toArray⟩, .int .u8 (q.2 : Int)]) false).run Tryd.prog W3.drew = .ok (.agg #[.int .i64 a0, .int .i64 a1, .int .i64 a2, .int .i64 a3, .int .i64 a4, .int .i64 a5, .int .i64 a6, .int .i64 a7, .int .i64 a8, .int .i64 a9, .int .i64 a10]) W3.drew := by
        have := lookup_place (w := W3.drew) (mapAt_drew HT3.out.2) q
        rw [hcnt] at this
        exact this
      have hl1 : ∀ o, (Instr.lookup 72 (.map (some bm)) (.agg #[.string ⟨q.1.toArray⟩, .int .u8 (q.2 : Int)]) false).run Tryd.prog (W3.alloc o).drew = .ok (.agg #[.int .i64 a0, .int .i64 a1, .int .i64 a2, .int .i64 a3, .int .i64 a4, .int .i64 a5, .int .i64 a6, .int .i64 a7, .int .i64 a8, .int .i64 a9, .int .i64 a10]) (W3.alloc o).drew := fun o => by
        have := lookup_place (w := (W3.alloc o).drew) (mapAt_drew (mapAt_alloc HT3.out.2)) q
        rw [hcnt] at this
        exact this
      have n1 : ¬ b = wr.heap.size + 1 := by omega
      have m1 : ∀ o, (W3.alloc o).cell? ⟨b, 1, none⟩ = some (.map (some bm)) := fun o => (World.cell?_of_block (ha_ne (by simp; omega))).trans g1
      have m2 : ∀ o, (W3.alloc o).cell? ⟨wr.heap.size, 0, none⟩ = some (.string ⟨q.1.toArray⟩) := fun o => (World.cell?_of_block (ha_ne (by simp; omega))).trans p0
      have m3 : ∀ o, (W3.alloc o).cell? ⟨wr.heap.size, 1, none⟩ = some (.int .u8 (q.2 : Int)) := fun o => (World.cell?_of_block (ha_ne (by simp; omega))).trans p1
      have HX := Lib.hid (And.intro hB23 (And.intro hcnt trivial))
      clear hT3 hB23 h11 hcnt hW3
      apply once
      case f =>
        intro hfin
        go_region
        all_goals exact hfin
      clear hl0 hl1
      obtain ⟨W4, hW4⟩ : ∃ W4, W4 = (W3.alloc (.cells #[.int .i64 a0, .int .i64 a1, .int .i64 a2, .int .i64 a3, .int .i64 a4, .int .i64 a5, .int .i64 a6, .int .i64 a7, .int .i64 a8, .int .i64 a9, .int .i64 a10] 82)).drew := ⟨_, rfl⟩
      rw [← hW4]
      have z0 : W4.drew.cell? ⟨wr.heap.size, 0, none⟩ = some (.string ⟨q.1.toArray⟩) := by rw [hW4]; exact m2 _
      have z1 : W4.drew.cell? ⟨wr.heap.size, 1, none⟩ = some (.int .u8 (q.2 : Int)) := by rw [hW4]; exact m3 _
      have hA4 : W4.heap[wr.heap.size + 1]? = some (.cells #[.int .i64 a0, .int .i64 a1, .int .i64 a2, .int .i64 a3, .int .i64 a4, .int .i64 a5, .int .i64 a6, .int .i64 a7, .int .i64 a8, .int .i64 a9, .int .i64 a10] 82 (0, 0)) := by rw [hW4, ← hs3]; exact ha_eq rfl
      have z2 : W4.drew.cell? ⟨wr.heap.size + 1, 0, none⟩ = some (.int .i64 a0) := by show W4.cell? _ = _; simp [World.cell?, hA4]
      have hs4 : W4.heap.size = wr.heap.size + 2 := by rw [hW4]; simp [hs3]
      have hB4 : Below wr.heap.size wr W4 := by rw [hW4]; exact (HX.out.1.alloc HX.out.1.size _).drew
      have hCl : Calls Tryd.prog 39 #[.slice (some ⟨wr.heap.size + 1, 1, none⟩) 10 10] W4.drew fun e w' => ∃ gv capv, e = .returned (.slice (some ⟨gv, 0, none⟩) 10 capv) ∧ FailsAt w' W4.heap.size (cnt l q) (.slice (some ⟨gv, 0, none⟩) 10 capv) ∧ Below W4.heap.size W4 w' := by
        refine (Tryd.slices_Clone_int (wr.heap.size + 1) 1 10 10 [a1, a2, a3, a4, a5, a6, a7, a8, a9, a10] W4.drew (by simp) (by omega) ?_).mono ?_
        · intro j hj
          show W4.cell? _ = _
          simp only [List.length_cons, List.length_nil] at hj
          have hj' : j = 0 ∨ j = 1 ∨ j = 2 ∨ j = 3 ∨ j = 4 ∨ j = 5 ∨ j = 6 ∨ j = 7 ∨ j = 8 ∨ j = 9 := by omega
          rcases hj' with rfl | rfl | rfl | rfl | rfl | rfl | rfl | rfl | rfl | rfl <;> simp [World.cell?, hA4]
        · rintro e w' ⟨v', rfl, ho, hne, hb⟩
          rcases ho.2 with ⟨h0, _⟩ | ⟨gv, capv, cur, rfl, hg, hh, hcap, hcm, hcs, htk⟩
          · exact absurd h0 hne
          · refine ⟨gv, capv, rfl, ⟨gv, capv, cur, rfl, hg, hh, hcap, hcm, by omega, ?_⟩, ((Below.refl W4.heap.size W4).drew).trans hb⟩
            rw [HX.out.2.1]
            simpa using htk
      obtain ⟨vs, hvl, hvf, hvo⟩ := HR.out.1
      have hrl : (rowsOf l (ps.take i)).length = i := by simp [rowsOf]; omega
      rw [hrl] at hvl hvo
      obtain ⟨xs, hxs⟩ : ∃ xs, xs = ((rowsOf l (ps.take i)).zip vs).flatMap rowCells := ⟨_, rfl⟩
      rw [← hxs] at hvo
      have ho4 : W4.ownsRow w2.heap.size 41 4 u3 i xs := own_below hvo hB4
      have hub : ∀ k, u3.ownBlock = some k → k < wr.heap.size := fun k e => (hvo.lt k e).2
      have HA := Lib.hid (And.intro hA4 (And.intro hB4 (And.intro hW4 (And.intro hvl (And.intro hvf (And.intro hxs hvo))))))
      clear hA4 hB4 hW4 m1 m2 m3 p0 p1 g0 g1 y0 y1 x0 x1 hvl hvf hxs hvo hrl
      obtain ⟨i1, hi1, hr0, hr1, hr2⟩ := info_parts infoR
      go_wp2_with fail
      go_region_held3 (fun w' => w'.cell? ⟨wr.heap.size, 0, none⟩ = some (.string ⟨q.1.toArray⟩) ∧ w'.cell? ⟨wr.heap.size, 1, none⟩ = some (.int .u8 (q.2 : Int)) ∧ w'.cell? ⟨wr.heap.size + 1, 0, none⟩ = some (.int .i64 a0)) (first | go_keep | (refine ⟨(hB5.cell (by simp; omega)).trans z0, (hB5.cell (by simp; omega)).trans z1, (hB5.cell (by simp; omega)).trans z2⟩) | (refine ⟨far3 hgr6 hub (by simp; omega) (by simp) ((World.cell?_of_block (ha_ne (by simp; omega))).trans k0), far3 hgr6 hub (by simp; omega) (by simp) ((World.cell?_of_block (ha_ne (by simp; omega))).trans k1), far3 hgr6 hub (by simp; omega) (by simp) ((World.cell?_of_block (ha_ne (by simp; omega))).trans k2)⟩))
        (first
          | (go_at_call 39; refine hCl.mono ?_; rintro e w5 ⟨gv, capv, rfl, hF5, hB5⟩; have hs5 := hB5.size; have k0 := (hB5.cell (by simp; omega)).trans z0; have k1 := (hB5.cell (by simp; omega)).trans z1; have k2 := (hB5.cell (by simp; omega)).trans z2)
          | ((refine step_append_lies _ (by rfl) _ _ _ (by rfl) w2.heap.size 41 i1 (.agg #[.string ⟨#[]⟩, .int .u8 0, .int .i64 0, .slice none 0 0]) 4 56 Tryd.underlying29 hi1 hr0 hr1 hr2 rfl (by decide) u3 i xs (by rfl) ((own_below ho4 hB5).alloc _) ⟨w5.heap.size, 0, none⟩ 1 1 [.string ⟨q.1.toArray⟩, .int .u8 (q.2 : Int), .int .i64 a0, .slice (some ⟨gv, 0, none⟩) 10 capv] (by rfl) (by rfl) (cell_four rfl) (by simp [Value.oneCell']) (by decide) (by unfold maxLen; omega) (by omega) (by have := hB5.size; simp; omega) (w5.heap.size + 1) (by simp) ?_; intro gg capg w6 hown6 hgr6 hat6 hlt6)))
      have hWo := HA.out.2.2.2.2.2.2
      have hgT : wr.grownBy w6 u3.ownBlock := World.grownBy.trans (World.grownBy.trans (World.grownBy.trans (grownBy_of_below HA.out.2.1 _) (grownBy_of_below hB5 _)) (World.grownBy_alloc _ _ _)) hgr6
      have hF6 : FailsAt w6 w2.heap.size (cnt l q) (.slice (some ⟨gv, 0, none⟩) 10 capv) := (hF5.base (by omega)).kept (World.grownBy.trans (World.grownBy_alloc _ _ _) hgr6) (row_obj (own_below ho4 hB5) (by decide))
      have hB6 : Below w2.heap.size w2 w6 := HR.out.2.1.grown hgT hBs (fun k e => (hWo.lt k e).1)
      have hR6 : RowsAt w6 w2.heap.size (.slice (some ⟨gg, 0, none⟩) (i + 1) capg) (rowsOf l (ps.take (i + 1))) := by
        have e : rowsOf l (ps.take (i + 1)) = rowsOf l (ps.take i) ++ [(q, cnt l q)] := by
          rw [hQ.out, List.take_succ_eq_append_getElem hlast]
          simp only [rowsOf, List.map_append, List.map_cons, List.map_nil]
        have hrl : (rowsOf l (ps.take i)).length = i := by simp [rowsOf]; omega
        rw [e]
        refine RowsAt.snoc (vs := vs) (by rw [hrl]; exact HA.out.2.2.2.1) (fun j h1 h2 => (HA.out.2.2.2.2.1 j h1 h2).kept hgT (row_obj hWo (by decide))) (q, cnt l q) _ hF6 ?_
        rw [hrl, ← HA.out.2.2.2.2.2.1]
        simpa [rowCells, str, HX.out.2.1] using hown6
      have HZ := Lib.hid (And.intro hR6 hB6)
      clear hR6 hB6 hF6 hgT hWo hown6 hgr6 hat6 hlt6 hF5 hB5 k0 k1 k2 z0 z1 z2 hub ho4 hCl
      go_wp2
      go_roundw
      case rel => exact ⟨i + 1, by simp, by omega, HZ.out.1, HZ.out.2⟩
      case measure => simp [natOf]; omega
    · have hli : ¬ (i : Int) < (ps.length : Int) := by omega
      obtain rfl : i = ps.length := by omega
      have HR := Lib.hid (And.intro hR hB)
      clear hR hB
      go_wp2
      refine bodyPost_ret (v := u3) (by simp [results, Tryd.results12, go_sem]) rfl ?_
      refine ⟨_, rfl, ps, HH.out.1, ?_, HH.out.2.2.2.trans (HR.out.2.mono (by omega))⟩
      have := HR.out.1.base (by omega : w.heap.size ≤ w2.heap.size)
      rwa [List.take_of_length_le (Nat.le_refl _)] at this

theorem rows_any (b bm : Nat) (names : Int) (l : Ent) (w : World) (h : TallyAt w b bm names l) (hgood : Good l) (hl : l.length ≤ 1000000) :
    Calls Tryd.prog 12 #[.pointer (some ⟨b, 0, none⟩)] w fun e w' => ∃ v ps, e = .returned v ∧ Places l ps ∧ RowsAt w' w.heap.size v (rowsOf l ps) ∧ Below w.heap.size w w' :=
  rowsE_any b bm names l w h (fun p => (hgood.cnt p).1) hl
end Go.Proofs.YthhcigmdocldnaaDoor
