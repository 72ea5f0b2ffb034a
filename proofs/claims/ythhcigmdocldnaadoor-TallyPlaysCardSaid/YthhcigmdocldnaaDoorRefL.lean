/- The document's own tally: Rows. -/
import Derived.Test.YthhcigmdocldnaaDoorRefK
import Derived.Test.YthhcigmdocldnaaDoorRefJ
import Derived.Test.YthhcigmdocldnaaDoorSpoil
import Derived.Test.YthhcigmdocldnaaDoorPlayD
namespace Go.Proofs.YthhcigmdocldnaaDoor
open Go Go.RowKit Go.Shelf Go.Sort

/-- The sum of the first j counts of a place. -/
def sP (acc : List Res) (p : Bytes × Nat) (j : Nat) : Int := ((List.range j).map fun q => (manyR acc (p, q) : Int)).foldl (· + ·) 0
theorem sP_succ (acc : List Res) (p : Bytes × Nat) (j : Nat) : sP acc p (j + 1) = sP acc p j + (manyR acc (p, j) : Int) := by
  unfold sP
  rw [List.range_succ, List.map_append, List.foldl_append]
  rfl
theorem sP_bound (acc : List Res) (p : Bytes × Nat) : ∀ j, 0 ≤ sP acc p j ∧ sP acc p j ≤ (j * acc.length : Nat)
  | 0 => ⟨Int.le_refl _, by simp [sP]⟩
  | j + 1 => by
    have ih := sP_bound acc p j
    have hm := manyR_le acc (p, j)
    rw [sP_succ, Nat.succ_mul]
    omega
theorem sP_all (acc : List Res) (p : Bytes × Nat) : sP acc p 11 = sumR acc p := rfl
/-- The counts behind the first, as cells. -/
def failL (acc : List Res) (p : Bytes × Nat) (j : Nat) : List Value := (List.range j).map fun q => Value.int .i64 (manyR acc (p, q + 1) : Int)
theorem failL_succ (acc : List Res) (p : Bytes × Nat) (j : Nat) : failL acc p (j + 1) = failL acc p j ++ [.int .i64 (manyR acc (p, j + 1) : Int)] := by
  unfold failL
  rw [List.range_succ, List.map_append]
  rfl
theorem failL_all (acc : List Res) (p : Bytes × Nat) : failL acc p 10 = ((cntR acc p).drop 1).map (Value.int .i64) := rfl
theorem RowsT.snoc {T : TypeId} {W : World} {base : Nat} {v : Value} {xs : Ent} {vs : List Value} (hvl : vs.length = xs.length) (hf : ∀ i (h1 : i < xs.length) (h2 : i < vs.length), FailsAt W base xs[i].2 vs[i]) (x : (Bytes × Nat) × List Int) (u : Value) (hx : FailsAt W base x.2 u)
    (ho : W.ownsRow base T 4 v (xs.length + 1) ((xs.zip vs).flatMap rowCells ++ rowCells (x, u))) : RowsT T W base v (xs ++ [x]) := by
  refine ⟨vs ++ [u], by simp [hvl], fun i h1 h2 => ?_, ?_⟩
  · by_cases hi : i < xs.length
    · rw [List.getElem_append_left hi, List.getElem_append_left (by omega)]
      exact hf i hi (by omega)
    · have e : i = xs.length := by simp at h1; omega
      subst e
      rw [List.getElem_append_right (Nat.le_refl _), List.getElem_append_right (by omega)]
      simpa [hvl] using hx
  · rw [List.zip_append hvl.symm, List.flatMap_append]
    simpa using ho
/-- The places of one domain, the first m of them. -/
def kindsR (d : Bytes) (m : Nat) : List (Bytes × Nat) := (List.range m).map fun j => (d, j + 1)
theorem kindsR_succ (d : Bytes) (m : Nat) : kindsR d (m + 1) = kindsR d m ++ [(d, m + 1)] := by
  unfold kindsR
  rw [List.range_succ, List.map_append]
  rfl
theorem placesR_succ {ds : List Bytes} {i : Nat} (h : i < ds.length) : placesR (ds.take (i + 1)) = placesR (ds.take i) ++ kindsR ds[i] 3 := by
  unfold placesR
  rw [List.take_succ_eq_append_getElem h, List.flatMap_append]
  rfl
theorem placesR_len (ds : List Bytes) : (placesR ds).length = 3 * ds.length := by
  unfold placesR
  induction ds with
  | nil => rfl
  | cons d ds ih => rw [List.flatMap_cons, List.length_append, ih]; simp; omega
theorem pickR_len (acc : List Res) (P : List (Bytes × Nat)) : (pickR acc P).length ≤ P.length := by
  unfold pickR
  rw [List.length_map]
  exact List.length_filter_le _ _
theorem infoInt : (Tryd.prog.info? 3).map (fun i => (i.zero, i.size, i.bytes)) = some (some (.int .i64 0), 1, 8) := by kernel_rfl

theorem zero_row {W : World} {A : Nat} (h : W.heap[A]? = some (.cells #[.string ⟨#[]⟩, .int .u8 0, .int .i64 0, .slice none 0 0] 71 (0, 0))) :
    W.cell? ⟨A, 0, none⟩ = some (.string ⟨#[]⟩) ∧ W.cell? ⟨A, 1, none⟩ = some (.int .u8 0) ∧ W.cell? ⟨A, 2, none⟩ = some (.int .i64 0) ∧ W.cell? ⟨A, 3, none⟩ = some (.slice none 0 0) ∧ W.frozen? ⟨A, 0, none⟩ = false ∧ W.frozen? ⟨A, 1, none⟩ = false ∧ W.frozen? ⟨A, 2, none⟩ = false ∧ W.frozen? ⟨A, 3, none⟩ = false := by
  refine ⟨?_, ?_, ?_, ?_, ?_, ?_, ?_, ?_⟩ <;> simp [World.cell?, World.frozen?, h]
theorem grown_more {a b c : World} {A : Nat} {row : Option Nat} (h : a.grownBy b (some A)) (hg : b.grownBy c row) (hr : ∀ k, row = some k → a.heap.size ≤ k) : a.grownBy c (some A) :=
  ⟨hg.os.trans h.os, hg.tape.trans h.tape, hg.output.trans h.output, Nat.le_trans h.size hg.size, fun k hk hne => (hg.block k (Nat.lt_of_lt_of_le hk h.size) (fun e => by have := hr k e.symm; omega)).trans (h.block k hk hne)⟩
theorem own_fails {W : World} {base : Nat} {v : Value} {acc : List Res} {p : Bytes × Nat} (h : W.ownsRow base 3 1 v (11 - 1) (failL acc p (11 - 1))) : FailsAt W base (cntR acc p) v := by
  rcases h.2 with ⟨_, h0⟩ | ⟨g, cap, cur, rfl, hb, hh, hc, hm, hs, ht⟩
  · cases h0
  · exact ⟨g, cap, cur, rfl, hb, hh, hc, hm, by simpa using hs, by rw [← failL_all]; exact ht⟩
theorem RowsT.base {T : TypeId} {W : World} {base base' : Nat} {v : Value} {xs : Ent} (h : RowsT T W base v xs) (hb : base' ≤ base) : RowsT T W base' v xs := by
  obtain ⟨vs, hl, hf, ho⟩ := h
  exact ⟨vs, hl, fun i h1 h2 => (hf i h1 h2).base hb, own_base ho hb⟩
theorem onceH {p q : Prop} (h : p) (f : RowKit.Hid p → q) : q := f (Lib.hid h)
theorem set4 {W : World} {A : Nat} {T : TypeId} {f : Nat × Nat} {y0 y1 y2 y3 x0 x1 x2 x3 : Value} (h : W.heap[A]? = some (.cells #[y0, y1, y2, y3] T f)) : ((((W.setCell ⟨A, 0, none⟩ x0).setCell ⟨A, 1, none⟩ x1).setCell ⟨A, 2, none⟩ x2).setCell ⟨A, 3, none⟩ x3).heap[A]? = some (.cells #[x0, x1, x2, x3] T f) :=
  heap_setCell_self (heap_setCell_self (heap_setCell_self (heap_setCell_self h)))
theorem below_set {n₀ : Nat} {a w : World} (h : Below n₀ a w) {ad : Addr} {u : Value} (hn : n₀ ≤ ad.block) : Below n₀ a (w.setCell ad u) :=
  ⟨h.os, h.tape, h.output, by simpa [World.setCell] using h.size, fun k hk => (Below.heap_setCell w ad u k (by omega)).trans (h.block k hk)⟩
/-- What Rows answers. -/
def RRowsPost (w : World) (acc : List Res) (e : Ending) (w' : World) : Prop := ∃ v ds, e = .returned v ∧ Asc cmpB ds ∧ (∀ d, d ∈ ds ↔ ∃ x ∈ acc, x.1.1 = d) ∧ RowsT 71 w' w.heap.size v (pickR acc (placesR ds)) ∧ Below w.heap.size w w'
theorem RowsT.nil (T : TypeId) (W : World) (base : Nat) : RowsT T W base (.slice none 0 0) [] := ⟨[], rfl, fun i h => by simp at h, ⟨rfl, .inl ⟨rfl, rfl⟩⟩⟩

set_option maxRecDepth 100000 in
set_option maxHeartbeats 2000000 in
theorem refRows_any (w : World) (base b : Nat) (names : Int) (acc : List Res) (h : RefAt w base b names acc) (hn : acc.length ≤ 900) (hs : ∀ x ∈ acc, x.1.1.length ≤ 1000000) :
    Calls Tryd.prog 49 #[.pointer (some ⟨b, 0, none⟩)] w (RRowsPost w acc) := by
  have hD := refDomains_any w base b names acc h (by omega) hs
  have HH := Lib.hid h
  clear h hs
  obtain ⟨i1, hi1, hr0, hr1, hr2⟩ := info_parts infoInt
  obtain ⟨i9, hi9, hq0, hq1, hq2⟩ := info_parts infoR19
  go_enter Tryd.func49, Tryd.ntmps49
  go_wp2_with fail
  refine hD.mono ?_
  rintro e w2 ⟨v, ds, rfl, hasc, hmem, hown, hB2⟩
  have hdl : ds.length ≤ 900 := by
    have := sub_len (l := ds) (m := acc.map fun y => y.1.1) (hasc.nodup ordB) (fun y hy => by obtain ⟨z, hz, e⟩ := (hmem y).1 hy; exact List.mem_map.2 ⟨z, hz, e⟩)
    rw [List.length_map] at this
    omega
  obtain ⟨p, c, rfl, hcells⟩ := strs_at hown
  have H2 := Lib.hid (And.intro hasc (And.intro hmem (And.intro hcells hB2)))
  clear hasc hmem hcells hown hB2 hD
  go_wp2_with fail
  go_loopw [3, 5] (fun ov iv wr => ∃ i : Nat, iv = .int .i64 (i : Int) ∧ i ≤ ds.length ∧ RowsT 71 wr w2.heap.size ov (pickR acc (placesR (ds.take i))) ∧ Below w2.heap.size w2 wr)
    (fun _ iv _ => ds.length - natI iv)
  case atStart => exact ⟨0, rfl, Nat.zero_le _, RowsT.nil _ _ _, Below.refl _ _⟩
  case round =>
    obtain ⟨i, rfl, hi, hR, hB⟩ := hrel
    by_cases hlast : i < ds.length
    · have hli : (i : Int) < (ds.length : Int) := by omega
      obtain ⟨gd, rfl, hcap, c0⟩ := H2.out.2.2.1 i hlast
      have hgd : gd < w2.heap.size := cell_lt c0
      obtain ⟨d, hd⟩ : ∃ d, d = ds[i] := ⟨_, rfl⟩
      rw [← hd] at c0
      have hpl := placesR_succ hlast
      rw [← hd] at hpl
      have hshp : ∃ po no co, u3 = .slice po no co := by
        obtain ⟨vs, _, _, ho⟩ := hR
        obtain ⟨po, co, e⟩ := own_shape ho
        exact ⟨po, _, co, e⟩
      have HI := Lib.hid (And.intro hR (And.intro hB (And.intro hpl hd)))
      clear hR hB hpl hd
      go_wp2_with fail
      go_loopw [3, 6] (fun ov kv wk => ∃ k : Nat, kv = .int .u8 (k : Int) ∧ 1 ≤ k ∧ k ≤ 4 ∧ RowsT 71 wk w2.heap.size ov (pickR acc (placesR (ds.take i) ++ kindsR d (k - 1))) ∧ Below w2.heap.size w2 wk)
        (fun _ kv _ => 4 - natI kv)
      case atStart =>
        refine ⟨1, rfl, Nat.le_refl _, by decide, ?_, HI.out.2.1⟩
        have e : placesR (ds.take i) ++ kindsR d (1 - 1) = placesR (ds.take i) := by simp [kindsR]
        rw [e]
        exact HI.out.1
      case round =>
        obtain ⟨k, rfl, hk1, hk4, hR, hB⟩ := hrel
        by_cases hklast : k ≤ 3
        · have hkl : (k : Int) ≤ 3 := by omega
          have y0 : wr.cell? ⟨gd, i, none⟩ = some (.string ⟨d.toArray⟩) := (hB.cell (p := ⟨gd, i, none⟩) hgd).trans c0
          have hgk : gd < wr.heap.size := Nat.lt_of_lt_of_le hgd hB.size
          have hBw : Below w.heap.size w wr := H2.out.2.2.2.trans (Below.less hB H2.out.2.2.2.size)
          have hMany : ∀ X, Below w.heap.size w X → ∀ j : Nat, Calls Tryd.prog 71 #[.pointer (some ⟨b, 0, none⟩), .agg #[.string ⟨d.toArray⟩, .int .u8 (k : Int), .int .u8 (j : Int)]] X fun e w' => e = .returned (.int .i64 (manyR acc ((d, k), j) : Int)) ∧ Below X.heap.size X w' := fun X hX j =>
            refMany_any X base b names acc ((d, k), j) (HH.out.below hX) (by omega)
          have hm0 := fun X hX => hMany X hX 0
          have hnk : ¬ gd = wr.heap.size := by omega
          have hnk' : ¬ wr.heap.size = gd := by omega
          have HK := Lib.hid (And.intro hR (And.intro hB hMany))
          clear hR hB hMany
          go_wp2_with fail
          apply onceH
          case f =>
            intro hfin
            go_region_held3 (fun W' => W'.cell? ⟨gd, i, none⟩ = some (.string ⟨d.toArray⟩)) ((first | with_reducible exact hy | go_keep))
              ((go_at_call 71; refine (hm0 _ (by first | exact below_drw hBw | exact below_drw (hBw.alloc hBw.size _))).mono ?_; rintro e w1 ⟨rfl, hBm⟩; have hy : w1.cell? ⟨gd, i, none⟩ = some (.string ⟨d.toArray⟩) := (hBm.cell (p := ⟨gd, i, none⟩) (by simp <;> omega)).trans (by first | exact y0 | exact (World.cell?_alloc_lt _ _ _ hgk).trans y0); have hgk1 : gd < w1.heap.size := cell_lt hy; have hn1 : ¬ gd = w1.heap.size := Nat.ne_of_lt hgk1; have hn2 : ¬ w1.heap.size = gd := fun e => hn1 e.symm; try (obtain ⟨hz0, hz1, hz2, hz3, hz4, hz5, hz6, hz7⟩ := zero_row ((hBm.block _ (by simp)).trans (ha_eq rfl)))))
            · generalize hW3 : World.alloc _ _ = W3
              generalize hAA : w1.heap.size = A
              have hB1 : Below wr.heap.size wr w1 := ⟨hBm.os, hBm.tape, hBm.output, hBm.size, hBm.block⟩
              have hA3 : W3.heap[A]? = some (.cells #[.string ⟨d.toArray⟩, .int .u8 (k : Int), .int .i64 (manyR acc ((d, k), 0) : Int), .slice none 0 0] 71 (0, 0)) := by rw [← hW3, ← hAA]; exact ha_eq rfl
              have hB3 : Below wr.heap.size wr W3 := by rw [← hW3]; exact hB1.alloc hB1.size _
              have hA0 : wr.heap.size ≤ A := by rw [← hAA]; exact hB1.size
              clear hW3 hAA
              revert hA3 hB3 hA0
              revert W3 A
              exact hfin.out
            · have hz := (hBm.block wr.heap.size (by simp)).trans (ha_eq rfl)
              have hB1 : Below wr.heap.size wr w1 := ((Below.refl _ wr).alloc (Nat.le_refl _) _).trans (Below.less (show Below _ (wr.alloc _) w1 from ⟨hBm.os, hBm.tape, hBm.output, hBm.size, hBm.block⟩) (by simp))
              generalize hW3 : World.setCell _ _ _ = W3
              generalize hAA : wr.heap.size = A
              have hA3 : W3.heap[A]? = some (.cells #[.string ⟨d.toArray⟩, .int .u8 (k : Int), .int .i64 (manyR acc ((d, k), 0) : Int), .slice none 0 0] 71 (0, 0)) := by rw [← hW3, ← hAA]; exact set4 hz
              have hB3 : Below wr.heap.size wr W3 := by rw [← hW3]; exact below_set (below_set (below_set (below_set hB1 (Nat.le_refl _)) (Nat.le_refl _)) (Nat.le_refl _)) (Nat.le_refl _)
              have hA0 : wr.heap.size ≤ A := by rw [← hAA]; exact Nat.le_refl _
              clear hW3 hAA
              revert hA3 hB3 hA0
              revert W3 A
              exact hfin.out
          intro W3 A hA3 hB3 hA0
          have hAl : A < W3.heap.size := (Array.getElem?_eq_some_iff.1 hA3).1
          have x2 : W3.cell? ⟨A, 2, none⟩ = some (.int .i64 (manyR acc ((d, k), 0) : Int)) := by simp [World.cell?, hA3]
          have hBw3 : Below w.heap.size w W3 := hBw.trans (Below.less hB3 hBw.size)
          have y3 : W3.cell? ⟨gd, i, none⟩ = some (.string ⟨d.toArray⟩) := (hB3.cell (p := ⟨gd, i, none⟩) hgk).trans y0
          have hne : gd ≠ A := by omega
          have hwA : w.heap.size ≤ A := Nat.le_trans hBw.size hA0
          have hg3 : gd < W3.heap.size := Nat.lt_of_lt_of_le hgk hB3.size
          have H3 := Lib.hid (And.intro hA3 (And.intro hB3 (And.intro hBw3 (And.intro y3 hA0))))
          clear hA3 hB3 hBw3 y3 y0 hm0 hA0
          generalize hz0 : (manyR acc ((d, k), 0) : Int) = z0 at x2
          have HZ0 := Lib.hid hz0
          clear hz0
          go_wp2_with fail
          go_loopw [8, 9] (fun sv jv wq => ∃ j : Nat, jv = .int .u8 (j : Int) ∧ 1 ≤ j ∧ j ≤ 11 ∧ sv = .int .i64 (sP acc (d, k) j) ∧ ∃ fv, wq.heap[A]? = some (.cells #[.string ⟨d.toArray⟩, .int .u8 (k : Int), .int .i64 (manyR acc ((d, k), 0) : Int), fv] 71 (0, 0)) ∧ wq.ownsRow W3.heap.size 3 1 fv (j - 1) (failL acc (d, k) (j - 1)) ∧ W3.grownBy wq (some A))
            (fun _ jv _ => 11 - natI jv)
          case atStart =>
            refine ⟨1, rfl, Nat.le_refl _, by decide, ?_, .slice none 0 0, H3.out.1, World.ownsRow_nil _ _ _ _, ⟨rfl, rfl, rfl, Nat.le_refl _, fun _ _ _ => rfl⟩⟩
            rw [← HZ0.out, sP_succ]
            simp [sP]
          case round =>
            obtain ⟨j, rfl, hj1, hj11, rfl, fv, hq, hown, hg⟩ := hrel
            have hBq : Below w.heap.size w wr := H3.out.2.2.1.grown hg H3.out.2.2.1.size (fun q e => by cases e; exact hwA)
            by_cases hjl : j ≤ 10
            · have hjl' : (j : Int) ≤ 10 := by omega
              have yq : wr.cell? ⟨gd, i, none⟩ = some (.string ⟨d.toArray⟩) := (hg.cell_far ⟨gd, i, none⟩ hg3 (fun e => hne (Option.some.inj e))).trans H3.out.2.2.2.1
              obtain ⟨p', c', rfl⟩ := own_shape hown
              have hC := HK.out.2.2 wr hBq j
              have hAq : A < wr.heap.size := Nat.lt_of_lt_of_le hAl hg.size
              have hsb := sP_bound acc (d, k) j
              have hsb2 : j * acc.length ≤ 10 * 900 := Nat.mul_le_mul hjl hn
              have hmb := manyR_le acc ((d, k), j)
              have hsu := sP_succ acc (d, k) j
              have hfs := failL_succ acc (d, k) (j - 1)
              rw [show j - 1 + 1 = j by omega] at hfs
              generalize hS : sP acc (d, k) j = S at hsb hsu
              generalize hM : (manyR acc ((d, k), j) : Int) = M at hC hsu hfs
              have hw : IntKind.i64.wrap (S + M) = S + M := by rw [IntKind.wrap_i64]; omega
              have hw8 : IntKind.u8.wrap ((j : Int) + 1) = (j : Int) + 1 := by rw [IntKind.wrap_u8]; omega
              have HJ := Lib.hid (And.intro hq (And.intro hown (And.intro hg (And.intro hsu hfs))))
              clear hq hown hg hsu hfs hS hM hsb hsb2 hmb hBq
              go_wp2_with fail
              refine hC.mono ?_
              rintro e w1 ⟨rfl, hB1⟩
              have hA1 := (hB1.block A hAq).trans HJ.out.1
              have hA1l : A < w1.heap.size := Nat.lt_of_lt_of_le hAq hB1.size
              have z3 : w1.cell? ⟨A, 3, none⟩ = some (.slice p' (j - 1) c') := by simp [World.cell?, hA1]
              have hgr := HJ.out.2.2.1.trans (grownBy_of_below hB1 (some A))
              have hW31 : W3.heap.size ≤ w1.heap.size := Nat.le_trans HJ.out.2.2.1.size hB1.size
              have H4 := Lib.hid (And.intro hA1 (And.intro (own_below HJ.out.2.1 hB1) (And.intro hgr hW31)))
              clear hA1 hgr hB1 hC yq hW31
              go_wp2_with (at_builtin; refine Bx.h ?_)
              refine ⟨?_⟩
              refine wpList_append_any rfl _ _ 39 rfl W3.heap.size 3 i1 (.int .i64 0) 1 8 Tryd.underlying39 hi1 hr0 hr1 hr2 rfl (by decide) (.slice p' (j - 1) c') (j - 1) (failL acc (d, k) (j - 1)) rfl (own_below H4.out.2.1 ((Below.refl _ _).alloc (Nat.le_refl _) _)) _ _ 1 [.int .i64 M] rfl (row_one (cell_new1 rfl)) rfl (fun u hu => by simp at hu; subst hu; rfl) (by unfold maxLen; omega) (by omega) (by have := H4.out.2.2.2; simp; omega) ?_
              intro v4 w4 ho4 hg4 hk4 _
              obtain ⟨p4, c4, hv4⟩ := own_shape ho4
              subst hv4
              have hA4 : w4.heap[A]? = some (.cells #[.string ⟨d.toArray⟩, .int .u8 (k : Int), .int .i64 (manyR acc ((d, k), 0) : Int), .slice p' (j - 1) c'] 71 (0, 0)) :=
                (hg4.block A (by simp; omega) (fun e => by have := hk4 A e.symm; omega)).trans ((ha_ne (Nat.ne_of_lt hA1l)).trans H4.out.1)
              have z4 : w4.cell? ⟨A, 3, none⟩ = some (.slice p' (j - 1) c') := by simp [World.cell?, hA4]
              have f4 : w4.frozen? ⟨A, 3, none⟩ = false := by simp [World.frozen?, hA4]
              have hgr4 : W3.grownBy (w4.setCell ⟨A, 3, none⟩ (.slice p4 (j - 1 + 1) c4)) (some A) :=
                (grown_more (H4.out.2.2.1.trans (World.grownBy_alloc _ _ _)) hg4 hk4).trans (grownBy_setCell w4 ⟨A, 3, none⟩ _)
              have hset : (w4.setCell ⟨A, 3, none⟩ (.slice p4 (j - 1 + 1) c4)).heap[A]? = some (.cells #[.string ⟨d.toArray⟩, .int .u8 (k : Int), .int .i64 (manyR acc ((d, k), 0) : Int), .slice p4 (j - 1 + 1) c4] 71 (0, 0)) := heap_setCell_self hA4
              have hos := own_setCell ho4 (a := ⟨A, 3, none⟩) (.slice p4 (j - 1 + 1) c4) hAl
              rw [← HJ.out.2.2.2.2] at hos
              have H5 := Lib.hid (And.intro hset (And.intro hos hgr4))
              clear hset hos hgr4 hA4 ho4 hg4 hk4 z3
              go_wp2
              go_roundw
              case rel =>
                have e1 : j - 1 + 1 = j := by omega
                have h5 := H5.out
                simp only [e1] at h5
                exact ⟨j + 1, by simp, by omega, by omega, by rw [HJ.out.2.2.2.1], _, h5.1, by rw [Nat.add_sub_cancel]; exact h5.2.1, h5.2.2⟩
              case measure => simp [natI]; omega
            · have hj : j = 11 := by omega
              have hjl' : ¬ (j : Int) ≤ 10 := by omega
              have hBk := H3.out.2.1.grown hg H3.out.2.1.size (fun q e => by cases e; exact H3.out.2.2.2.2)
              have hRq := HK.out.1.below hBk
              have hB2q := HK.out.2.1.trans (Below.less hBk HK.out.2.1.size)
              have hks := kindsR_succ d (k - 1)
              rw [show k - 1 + 1 = k by omega] at hks
              have hps := pickR_snoc acc (placesR (ds.take i) ++ kindsR d (k - 1)) (d, k)
              rw [List.append_assoc, ← hks, ← sP_all] at hps
              rw [hj] at hown ⊢
              have hfa := own_fails hown
              have hw8 : IntKind.u8.wrap ((k : Int) + 1) = (k : Int) + 1 := by rw [IntKind.wrap_u8]; omega
              have hAq : A < wr.heap.size := Nat.lt_of_lt_of_le hAl hg.size
              have HJ := Lib.hid (And.intro hj hBk)
              clear hBk hown hg hks hBq hj hAq
              generalize sP acc (d, k) 11 = T at *
              by_cases hT : 0 < T
              · rw [if_pos hT] at hps
                obtain ⟨vs, hvl, hvf, hvo⟩ := hRq
                obtain ⟨po, co, rfl⟩ := own_shape hvo
                have hpn : (pickR acc (placesR (ds.take i) ++ kindsR d (k - 1))).length ≤ 3000 := by
                  refine Nat.le_trans (pickR_len _ _) ?_
                  rw [List.length_append, placesR_len, List.length_take]
                  simp [kindsR]
                  omega
                have hfs := hfa
                obtain ⟨gf, capf, curf, rfl, hgf, hhf, _⟩ := hfs
                have x0 : wr.cell? ⟨A, 0, none⟩ = some (.string ⟨d.toArray⟩) := by simp [World.cell?, hq]
                have x1 : wr.cell? ⟨A, 1, none⟩ = some (.int .u8 (k : Int)) := by simp [World.cell?, hq]
                have x2' : wr.cell? ⟨A, 2, none⟩ = some (.int .i64 (manyR acc ((d, k), 0) : Int)) := by simp [World.cell?, hq]
                have x3 : wr.cell? ⟨A, 3, none⟩ = some (.slice (some ⟨gf, 0, none⟩) 10 capf) := by simp [World.cell?, hq]
                generalize hxs : pickR acc (placesR (ds.take i) ++ kindsR d (k - 1)) = xs at hvl hvf hvo hps hpn
                have H6 := Lib.hid (And.intro hvl (And.intro hvf (And.intro hvo (And.intro hps (And.intro hfa (And.intro hB2q hpn))))))
                clear hvl hvf hvo hps hfa hB2q hxs hq hhf hgf hpn
                go_wp2_with (at_builtin; refine Bx.h ?_)
                refine ⟨?_⟩
                refine wpList_append_any rfl _ _ 37 rfl w2.heap.size 71 i9 (.agg #[.string ⟨#[]⟩, .int .u8 0, .int .i64 0, .slice none 0 0]) 4 56 Tryd.underlying37 hi9 hq0 hq1 hq2 rfl (by decide) (.slice po xs.length co) xs.length ((xs.zip vs).flatMap rowCells) rfl (own_below H6.out.2.2.1 ((Below.refl _ _).alloc (Nat.le_refl _) _)) _ _ 1 [.string ⟨d.toArray⟩, .int .u8 (k : Int), .int .i64 (manyR acc ((d, k), 0) : Int), .slice (some ⟨gf, 0, none⟩) 10 capf] rfl (row_block (cs := #[.string ⟨d.toArray⟩, .int .u8 (k : Int), .int .i64 (manyR acc ((d, k), 0) : Int), .slice (some ⟨gf, 0, none⟩) 10 capf]) (heap_new rfl)) rfl (fun u hu => by simp at hu; rcases hu with rfl | rfl | rfl | rfl <;> rfl) (by have := H6.out.2.2.2.2.2.2; unfold maxLen; omega) (by have := H6.out.2.2.2.2.2.2; omega) (by have := H6.out.2.2.2.2.2.1.size; simp; omega) ?_
                intro v5 w5 ho5 hg5 hk5 _
                have hgr5 := World.grownBy.trans (World.grownBy_alloc _ _ _) hg5
                have hrow := row_obj H6.out.2.2.1 (t := 3) (by decide)
                have hR5 : RowsT 71 w5 w2.heap.size v5 (xs ++ [((d, k), cntR acc (d, k))]) :=
                  RowsT.snoc H6.out.1 (fun i h1 h2 => (H6.out.2.1 i h1 h2).kept hgr5 hrow) _ _ ((H6.out.2.2.2.2.1.kept hgr5 hrow).base (Nat.le_trans HK.out.2.1.size H3.out.2.1.size)) ho5
                have hB5 : Below w2.heap.size w2 w5 := H6.out.2.2.2.2.2.1.grown hgr5 H6.out.2.2.2.2.2.1.size hk5
                rw [← H6.out.2.2.2.1] at hR5
                have H7 := Lib.hid (And.intro hR5 hB5)
                clear ho5 hg5 hk5 hgr5 hrow hR5 hB5
                go_wp2
                go_roundw
                case rel => exact ⟨k + 1, by simp, by omega, by omega, by rw [Nat.add_sub_cancel]; exact H7.out.1, H7.out.2⟩
                case measure => simp [natI]; omega
              · rw [if_neg hT, List.append_nil] at hps
                rw [← hps] at hRq
                have H7 := Lib.hid (And.intro hRq hB2q)
                clear hRq hB2q hps hfa hq
                go_wp2
                go_roundw
                case rel => exact ⟨k + 1, by simp, by omega, by omega, by rw [Nat.add_sub_cancel]; exact H7.out.1, H7.out.2⟩
                case measure => simp [natI]; omega
        · have hk : k = 4 := by omega
          subst hk
          have e := HI.out.2.2.1
          rw [show (4 : Nat) - 1 = 3 by decide, ← e] at hR
          have H7 := Lib.hid (And.intro hR hB)
          clear hR hB e
          go_wp2
          go_roundw
          case rel => exact ⟨i + 1, by simp, by omega, H7.out.1, H7.out.2⟩
          case measure => simp [natI]; omega
    · have hli : ¬ (i : Int) < (ds.length : Int) := by omega
      obtain rfl : i = ds.length := by omega
      have HB := Lib.hid (And.intro hR hB)
      clear hR hB
      go_wp2
      refine bodyPost_ret (v := u3) (by simp [results, Tryd.results49, go_sem]) rfl ?_
      refine ⟨u3, ds, rfl, H2.out.1, H2.out.2.1, ?_, H2.out.2.2.2.trans (Below.less HB.out.2 H2.out.2.2.2.size)⟩
      have := HB.out.1
      rw [List.take_length] at this
      exact this.base H2.out.2.2.2.size
end Go.Proofs.YthhcigmdocldnaaDoor
