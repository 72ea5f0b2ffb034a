/- The map's entries, collected and sorted. -/
import Derived.Test.YtojhledbfaninaaClist
import Derived.Test.YtojhledbfaninaaSeq
import Derived.Deep.AppendLies
import Derived.RangeFuncCalls
import Derived.Shelf.SlSortCmp.NoneTotal
namespace Go.Proofs.Ytojhledbfaninaa
open Go Go.RowKit Go.Shelf Go.Sort

def valAt (l : CM) (i : Nat) : EM := ((l[i]?).map (·.2)).getD default
theorem valAt_eq {l : CM} {i : Nat} (h : i < l.length) : valAt l i = l[i].2 := by simp [valAt, h]
theorem vals_range (l : CM) : (List.range l.length).map (valAt l) = l.map (·.2) := by
  apply List.ext_getElem
  · simp
  · intro i h1 h2
    simp at h1
    simp [valAt, h1]
theorem ItAt.walk {w : World} {r b : Nat} {l : CM} {idx : List Nat} (h : ItAt w r b str evp l idx) : ∃ o : Obj, w.heap[r]? = some o ∧ o.isWalk = true := by
  obtain ⟨es, clock, since, _, _, hb, _⟩ := h
  exact ⟨_, hb, rfl⟩
theorem ItAt.walks {w w' : World} {r b : Nat} {l : CM} {idx : List Nat} (h : ItAt w r b str evp l idx) (hk : KeepsWalks w w') : ItAt w' r b str evp l idx := by
  obtain ⟨es, clock, since, h1, h2, h3, h4⟩ := h
  exact ⟨es, clock, since, hk.same _ _ h1 rfl, h2, hk.same _ _ h3 rfl, h4⟩

set_option maxRecDepth 100000 in
set_option maxHeartbeats 1000000 in
theorem vals1_in (n lv Bm b : Nat) (l : CM) (J Jx : List EM → World → Prop) (W : World) (hJ : AbidesP W.heap.size (fun _ => False) J)
    (hY : ∀ pre x W1, J pre W1 → pre.length < l.length → YieldAt Fence.wide (n - 1) Try.prog lv #[evp x] W1 fun e W' =>
      (e = .returned (.bool true) ∧ J (pre ++ [x]) W' ∧ KeepsWalks W1 W') ∨ (e = .returned (.bool false) ∧ Jx (pre ++ [x]) W'))
    (hm : W.cell? ⟨Bm, 0, none⟩ = some (.map (some b))) (hmap : MapAt W b str evp l) (h0 : J [] W) :
    CallsIn Fence.wide n Try.prog 69 #[.func (.yield lv) #[] #[], .pointer (some ⟨Bm, 0, none⟩)] W fun e W' => (∃ v, e = .returned v) ∧
      ((∃ xs : List EM, xs.Perm (l.map (·.2)) ∧ J xs W') ∨ (∃ pre, True ∧ Jx pre W')) := by
  have hbW := hmap.lt
  obtain ⟨o, hrg, how, hit⟩ := run_range_at (P := Try.prog) (t := 65) Try.underlying65 hmap
  have HT := Lib.hid (And.intro hmap (And.intro how hit))
  clear hmap how hit
  refine callsIn_of_wp Try.func69 rfl trivial ?_ rfl
  simp only [Try.ntmps69, List.size_toArray, List.length_cons, List.length_nil, Nat.reduceAdd, Nat.reduceSub, Array.replicate_succ, Array.replicate_zero, List.push_toArray, List.append_toArray, List.nil_append, List.cons_append]
  gi_wp2
  gi_loopw [4] (fun _ wr => ∃ idx : List Nat, ItAt wr W.heap.size b str evp l idx ∧ W.heap.size + 1 ≤ wr.heap.size ∧ J (idx.map (valAt l)) wr)
    (fun _ wr => l.length - itSeen wr W.heap.size)
  case atStart =>
    exact ⟨[], HT.out.2.2, by simp, hJ [] W _ none h0 (World.grownBy_alloc _ _ _) (fun r e => by cases e)⟩
  case round =>
    obtain ⟨idx, hit, hsz, hj⟩ := hrel
    have hM := itSeen_eq hit
    have hlen := it_len hit
    rcases run_next_step (P := Try.prog) hit (by omega) 0 with ⟨hle, hrun⟩ | ⟨i, hi, q, o2, hni, hrun, hit2⟩
    · have hperm := it_perm hit hle
      clear hle
      gi_wp2
      go_end0
      refine ⟨⟨_, rfl⟩, .inl ⟨idx.map (valAt l), ?_, hj⟩⟩
      rw [← vals_range]
      exact hperm.map _
    · have hg2 : wr.grownBy ((wr.drewN q).putObj W.heap.size o2) (some W.heap.size) := ⟨rfl, rfl, rfl, by simp [World.putObj, World.drewN], fun k _ hk => by
        show ((wr.drewN q).putObj W.heap.size o2).heap[k]? = (wr.drewN q).heap[k]?
        exact World.putObj_heap_other (fun e => hk (by rw [e]))⟩
      have hj2 := hJ _ wr _ (some W.heap.size) hj hg2 (fun r e => by cases e; exact .inl ⟨Nat.le_refl _, hit.walk⟩)
      have hent := run_entry_it (P := Try.prog) hi hit2
      obtain ⟨W2, hW2⟩ : ∃ W2, W2 = (wr.drewN q).putObj W.heap.size o2 := ⟨_, rfl⟩
      rw [← hW2] at hrun hit2 hent hg2 hj2
      clear hW2
      have hsz2 : W.heap.size + 1 ≤ W2.heap.size := Nat.le_trans hsz hg2.size
      have hk : l[i].2 = valAt l i := (valAt_eq hi).symm
      rw [hk] at hrun hent
      have hlt : idx.length < l.length := by
        have := it_len hit2; simp at this; omega
      have hA := trivial
      have hj3 := hJ _ W2 (W2.alloc (ebox (valAt l i))) none hj2 (World.grownBy_alloc _ _ _) (fun r e => by cases e)
      obtain ⟨fn, tmps, assign, body, hy, hR⟩ := hY _ (valAt l i) _ hj3 (by simpa using hlt)
      have HF := Lib.hid (And.intro hit2 (And.intro hM (And.intro hj3 hsz2)))
      clear hit hit2 hM hj hj2 hj3 hg2 hA hk hlen hlt hsz
      unfold ebox at hy hR
      unfold evp ecells str shV at hrun hent
      unfold evp ecells str shV at hy
      unfold ecells str shV at hR
      gi_wp2_with fail
      refine ⟨(fun h => by cases h), hR.mono ?_⟩
      rintro e W3 (⟨rfl, hJ3, hk3⟩ | ⟨rfl, hJx3⟩)
      · gi_wp2
        have hit3 : ItAt W3 W.heap.size b str evp l (idx ++ [i]) := ((HF.out.1.of_blocks (ha_ne (by omega)) (ha_ne (by omega)) : ItAt (W2.alloc (ebox (valAt l i))) W.heap.size b str evp l (idx ++ [i]))).walks hk3
        go_roundw
        case rel => exact ⟨idx ++ [i], hit3, by have := hk3.size; simp at this; omega, by simpa using hJ3⟩
        case measure =>
          have := it_len hit3
          rw [itSeen_eq hit3, HF.out.2.1]
          simp at this ⊢
          omega
      · gi_wp2
        refine bodyPost_ret (results_none rfl _ _ _) rfl ?_
        exact ⟨⟨_, rfl⟩, .inr ⟨_, trivial, hJx3⟩⟩

theorem vals_stops (n Bm b : Nat) (l : CM) (w : World) (hm : w.cell? ⟨Bm, 0, none⟩ = some (.map (some b))) (hmap : MapAt w b str evp l) :
    SeqStopsP Fence.wide n Try.prog 69 #[.pointer (some ⟨Bm, 0, none⟩)] (fun x : EM => #[evp x]) KeepsWalks (fun _ => False) (fun xs => xs.Perm (l.map (·.2))) (fun _ => True) (fun pre _ => pre.length < l.length) w := fun lv J Jx W hW hJ hJx hY h0 =>
  vals1_in n lv Bm b l J Jx W hJ hY ((hW.cell (cell_lt hm)).trans hm) (hmap.below hW hmap.lt) h0

structure ApI (w : World) (Bs : Nat) (pre : List EM) (W : World) : Prop where
  below : Below w.heap.size w W
  box : ∃ v, W.heap[Bs]? = some (.cells #[v] 34 (0, 0)) ∧ W.ownsRow w.heap.size 27 6 v pre.length (ec pre) ∧ (v = .slice none 0 0 ↔ pre = [])

theorem row_ne {W : World} {base : Nat} {e : TypeId} {size : Nat} {v : Value} {k : Nat} {xs : List Value} (h : W.ownsRow base e size v k xs) {row : Option Nat} (hr : ∀ r, row = some r → ∃ o : Obj, W.heap[r]? = some o ∧ ∀ cur, o ≠ .cells cur e (0, 0)) : v.ownBlock = none ∨ v.ownBlock ≠ row := by
  rcases h.2 with ⟨rfl, _⟩ | ⟨g, cap, cur, rfl, _, hgb, _⟩
  · exact .inl rfl
  · refine .inr fun e' => ?_
    obtain ⟨o, ho, hn⟩ := hr g (by simpa [Value.ownBlock] using e'.symm)
    rw [hgb] at ho; cases ho; exact hn cur rfl
theorem row_cells {W : World} {base : Nat} {e : TypeId} {size : Nat} {v : Value} {k : Nat} {xs : List Value} (h : W.ownsRow base e size v k xs) : ∀ (j : Nat) (o : Obj), v.ownBlock = some j → W.heap[j]? = some o → o.isCells = true := by
  intro j o hj ho
  rcases h.2 with ⟨rfl, _⟩ | ⟨g, cap, cur, rfl, _, hgb, _⟩
  · simp [Value.ownBlock] at hj
  · have : g = j := by simpa [Value.ownBlock] using hj
    subst this; rw [hgb] at ho; cases ho; rfl
theorem ownP_ap {w : World} {Bs B : Nat} (hB : w.heap.size ≤ B) : OwnP B (fun _ => False) (ApI w Bs) := fun s W W' row h hg hr => by
  obtain ⟨v, hv, ho, hn⟩ := h.box
  refine ⟨h.below.grown hg h.below.size (fun k e => by rcases hr k e with h | h; exact Nat.le_trans hB h.1; exact h.elim), v, ?_, ho.kept hg (row_ne ho (fun r e => ?_)), hn⟩
  · exact (hg.block Bs (Array.getElem?_eq_some_iff.1 hv).1 (fun e => by
      rcases hr Bs e.symm with ⟨_, o, ho, hc⟩ | h
      · rw [hv] at ho; cases ho; cases hc
      · exact h)).trans hv
  · rcases hr r e with ⟨_, o, ho, hc⟩ | h
    · exact ⟨o, ho, fun cur e => by rw [e] at hc; cases hc⟩
    · exact h.elim
theorem cell_list {w : World} {cs : List Value} {t : TypeId} {k : Nat} (hk : k = w.heap.size) : ∀ j u, cs[j]? = some u → (w.alloc (.cells cs.toArray t)).cell? ((⟨k, 0, none⟩ : Addr).add j) = some u := by
  subst hk
  intro j u hj
  rw [addr0]
  have : (w.alloc (.cells cs.toArray t)).heap[w.heap.size]? = some (.cells cs.toArray t (0, 0)) := ha_eq rfl
  unfold World.cell?
  rw [this]
  simpa using hj

def ApX (gf : Nat) (lb : Array Value) (Bs : Nat) (x : EM) (a' : Act) (W : World) : Prop :=
  ∃ Bv, a' = { tmps := #[.slice none 0 0, .func (.func gf) #[] lb, .pointer (some ⟨Bs, 0, none⟩), undef, .slice none 0 0, .pointer (some ⟨Bv, 0, none⟩), .func (.func gf) #[] lb, evp x, undef, undef, undef, undef, undef], defers := [] } ∧ W.heap[Bv]? = some (.cells (ecells x).toArray 27 (0, 0))
theorem ownP_apx {gf : Nat} {lb : Array Value} {Bs B : Nat} {x : EM} {a' : Act} : OwnP B (fun _ => False) (fun (_ : Unit) W => ApX gf lb Bs x a' W) := fun s W W' row h hg hr => by
  obtain ⟨Bv, e, hb⟩ := h
  exact ⟨Bv, e, (hg.block Bv (Array.getElem?_eq_some_iff.1 hb).1 (fun e => by
      rcases hr Bv e.symm with ⟨_, o, ho, hc⟩ | h
      · rw [hb] at ho; cases ho; cases hc
      · exact h)).trans hb⟩

set_option maxRecDepth 100000 in
set_option maxHeartbeats 2000000 in
theorem appendSeq_in (n N gf : Nat) (lb : Array Value) (hN : N ≤ 1000000) (h1 : 1 ≤ n) (eg : ∀ args w, (callFunc gf args).run Try.prog w = .ok (.enter gf args) w) (S : List EM → Prop) (w : World)
    (hseq : ∀ w', Below w.heap.size w w' → SeqStopsP Fence.wide (n - 1) Try.prog gf lb (fun x : EM => #[evp x]) KeepsWalks (fun _ => False) S (fun _ => True) (fun pre _ => pre.length < N) w') :
    CallsIn Fence.wide n Try.prog 77 #[.slice none 0 0, .func (.func gf) #[] lb] w fun e w' => ∃ (v : Value) (ps : List EM), e = .returned v ∧ S ps ∧ w'.ownsRow w.heap.size 27 6 v ps.length (ec ps) ∧ (v = .slice none 0 0 ↔ ps = []) ∧ Below w.heap.size w w' := by
  obtain ⟨i0, hi0, hz0, hz1, hz2⟩ := info_parts infoE
  refine callsIn_of_wp_marks Try.func77 rfl trivial ?_ rfl
  simp only [Try.ntmps77, List.size_toArray, List.length_cons, List.length_nil, Nat.reduceAdd, Nat.reduceSub, Array.replicate_succ, Array.replicate_zero, List.push_toArray, List.append_toArray, List.nil_append, List.cons_append]
  gi_wp2_with fail
  obtain ⟨W0, hW0⟩ : ∃ W0, W0 = w.alloc (.cells #[.slice none 0 0] 34) := ⟨_, rfl⟩
  have hs0 : W0.heap.size = w.heap.size + 1 := by rw [hW0]; simp
  have hv0 : W0.heap[w.heap.size]? = some (.cells #[.slice none 0 0] 34 (0, 0)) := by rw [hW0]; exact World.alloc_heap_new w _
  have hb0 : Below w.heap.size w W0 := by rw [hW0]; exact (Below.refl _ w).alloc (Nat.le_refl _) _
  rw [← hW0]
  clear hW0
  refine wpIn_rangeFunc_P (w0 := W0) (encs := fun x : EM => #[evp x]) (Kp := KeepsWalks) (Pb := fun _ => False) (S := S) (Sp := fun _ => True) (Y := fun pre _ => pre.length < N) rfl h1 (gf := gf) (lb := lb) rfl trivial eg (hseq W0 hb0) (fun h k => h.trans k)
    (fun W lv o o' hl ho hc hw => KeepsWalks.putObj _ ho hw) (Below.refl _ _) (fun _ => rfl) (fun r h => h.elim) (ApI w w.heap.size) (fun _ _ _ => False) (ownP_ap (by omega)) (fun c => fun _ _ _ _ h _ _ => h) ⟨hb0, _, hv0, ⟨rfl, .inl ⟨rfl, rfl⟩⟩, by simp⟩ (ApX gf lb w.heap.size) (fun x a' => ownP_apx) ?assign ?body ?done ?stop
  case assign =>
    intro lv pre x W K hI hK
    unfold evp ecells str shV
    gi_wp2_with (rw [Oper.semAt_eq _ _ _ (fun c h => by cases h)]; go_simp; try go_bits)
    exact hK _ _ ((KeepsOthers.alloc _ _).from _) (KeepsWalks.alloc _ _) ((ownP_ap (by omega) : OwnP W0.heap.size _ _).alloc _ hI) ⟨W.heap.size, rfl, ha_eq rfl⟩
  case stop =>
    intro D c pre W hD _ hf hK
    exact hf.elim
  case body =>
    intro lv pre x a' W hlv hloop hI ha hlen
    obtain ⟨Bv, rfl, hBv⟩ := ha
    obtain ⟨v, hv, ho, hn⟩ := hI.box
    obtain ⟨c1, f1⟩ := box_cell hv
    obtain ⟨⟨d, i, m, mx, age, unt⟩, p, ln, c⟩ := x
    replace hBv : W.heap[Bv]? = some (.cells #[.string ⟨d.toArray⟩, .string ⟨i.toArray⟩, .int .u8 (m : Int), .slice p ln c, .int .i64 age, .int .i64 unt] 27 (0, 0)) := hBv
    obtain ⟨d0, d1, d2, d3, d4, d5⟩ := box6 hBv
    rw [lit_ev]
    have hbox := hI.below.size
    have hHI := Lib.hid (And.intro hI.below (And.intro hBv (And.intro hv (And.intro ho hn))))
    clear hI hBv hv ho hn
    gi_wp2_with (first | (gi_at_builtin; refine Bx.h ?_) | rw [Oper.semAt_eq _ _ _ (fun c h => by cases h)]; go_simp; try go_bits)
    refine ⟨?_⟩
    refine wpListIn_append_own _ rfl _ _ 34 rfl w.heap.size 27 i0 (.agg #[.string ⟨#[]⟩, .string ⟨#[]⟩, .int .u8 0, .slice none 0 0, .int .i64 0, .int .i64 0]) 6 80 Try.underlying34 hi0 hz0 hz1 hz2 rfl (by decide) _ _ _ rfl (hHI.out.2.2.2.1.alloc _) ⟨W.heap.size, 0, none⟩ 1 1 (ecells (⟨d, i, m, mx, age, unt⟩, (p, ln, c))) rfl rfl (cell_list rfl) (ecells_one _) (by unfold maxLen; omega) (by omega) (by simp; omega) ?_
    intro v' w3 hown3 hgrow3 hnil3
    replace hgrow3 : (W.alloc _).grownBy w3 v.ownBlock := hgrow3
    obtain ⟨g', cap', rfl⟩ : ∃ g' cap', v' = .slice (some ⟨g', 0, none⟩) (pre.length + 1) cap' := by
      rcases hown3.2 with ⟨_, h0⟩ | ⟨g, cap, _, h, _⟩
      · exact absurd h0 (by omega)
      · exact ⟨g, cap, h⟩
    clear hnil3
    obtain ⟨hb, hBv, hv, ho, hn⟩ := hHI.out
    have hBs : w.heap.size < W.heap.size := (Array.getElem?_eq_some_iff.1 hv).1
    have hrne : v.ownBlock = none ∨ v.ownBlock ≠ some w.heap.size := row_ne ho (fun r e => by cases e; exact ⟨_, hv, fun cur e => by cases e⟩)
    have hv3 : w3.heap[w.heap.size]? = some (.cells #[v] 34 (0, 0)) := by
      rw [hgrow3.block w.heap.size (by simp; omega) (fun e => by
        rcases hrne with h | h
        · rw [h] at e; cases e
        · exact h e.symm), ha_ne (by omega)]
      exact hv
    obtain ⟨c3, f3⟩ := box_cell hv3
    have hx : W.grownBy w3 v.ownBlock := World.grownBy.trans (World.grownBy_alloc _ _ _) hgrow3
    have hw3 : KeepsOthers W w3 := KeepsOthers.of_grownBy hx (row_cells ho)
    have hb3 : Below w.heap.size w w3 := hb.grown hx hb.size (fun k e => (ho.lt k e).1)
    have hH3 := Lib.hid (And.intro hw3 (And.intro hb3 (And.intro hv3 hown3)))
    clear hown3 hgrow3 hb hBv hv ho hn hrne hv3 hx hw3 hb3 c1 f1 d0 d1 d2 d3 d4 d5 hHI
    gi_wp2_with (rw [Oper.semAt_eq _ _ _ (fun c h => by cases h)]; go_simp; try go_bits)
    have hst := grown_set w3 w.heap.size (.slice (some ⟨g', 0, none⟩) (pre.length + 1) cap')
    have hr3 : (Value.slice (some ⟨g', 0, none⟩) (pre.length + 1) cap').ownBlock = none ∨ (Value.slice (some ⟨g', 0, none⟩) (pre.length + 1) cap').ownBlock ≠ some w.heap.size := row_ne hH3.out.2.2.2 (fun r e => by cases e; exact ⟨_, hH3.out.2.2.1, fun cur e => by cases e⟩)
    refine ⟨(hH3.out.1.trans (KeepsOthers.setCell _ _ _)).from _, (hH3.out.1.trans (KeepsOthers.setCell _ _ _)).walks, hH3.out.2.1.grown hst hH3.out.2.1.size (fun k e => by cases e; exact Nat.le_refl _), _, box_set _ hH3.out.2.2.1, ?_, by simp⟩
    rw [ec_snoc, List.length_append]
    exact hH3.out.2.2.2.kept hst hr3
  case done =>
    intro D xs W hD hS hI hK
    obtain ⟨v, hv, ho, hn⟩ := hI.box
    obtain ⟨c1, f1⟩ := box_cell hv
    have hH := Lib.hid (And.intro hI.below (And.intro hv (And.intro ho hn)))
    clear hI hv ho hn
    gi_wp2
    refine ⟨by simp, .inl ⟨_, _, rfl, run_takeDeferred hK, ?_⟩⟩
    have hg := grownBy_putObj' W D (.deferred none)
    exact ⟨_, results_tmp rfl _ _ _, v, xs, rfl, hS, hH.out.2.2.1.kept (grownBy_putObj' W D _) (row_ne hH.out.2.2.1 (fun r e => by cases e; exact ⟨_, hK, fun cur e => by cases e⟩)), hH.out.2.2.2, hH.out.1.grown (grownBy_putObj' W D _) hH.out.1.size (fun k e => by cases e; omega)⟩
theorem own_sortedE {w : World} {base g cap m : Nat} {e : TypeId} {os : Array Obj} {cur : Array Value} {ps ts : List EM} (hl : ts.length = ps.length) (hbase : base ≤ g) (hb : w.heap[g]? = some (.cells cur e (0, 0)))
    (h1 : ps.length ≤ cap) (h2 : cap ≤ maxLen) (h3 : cur.size = cap * 6) :
    (sortWorldK ecells 6 w g 0 m ts.toArray os).ownsRow base e 6 (.slice (some ⟨g, 0, none⟩) ps.length cap) ps.length (ec ts) := by
  have hg : g < w.heap.size := (Array.getElem?_eq_some_iff.1 hb).1
  refine ⟨by rw [ec_length, hl], .inr ⟨g, cap, putCells id 0 (ec ts).toArray cur, rfl, hbase, ?_, h1, h2, by simp [putCells, h3], ?_⟩⟩
  · unfold sortWorldK putRowK
    rw [heap_grow_old _ _ (by simpa using hg), flatK_ec]
    simp [putRow, mapBlock, Sort.ahead, Array.getElem?_modify, hb, onCells]
  · apply List.ext_getElem?
    intro j
    by_cases hj : j < ps.length * 6
    · have hjl : j < (ec ts).length := by rw [ec_length]; omega
      rw [List.getElem?_take_of_lt hj, Array.getElem?_toList]
      simp [putCells, hjl, show j < cur.size by omega]
    · rw [List.getElem?_take_eq_none (by omega), List.getElem?_eq_none (by rw [ec_length]; omega)]
theorem grownBy_sortedE {w : World} {g m : Nat} {os : Array Obj} (d : Array EM) : w.grownBy (sortWorldK ecells 6 w g 0 m d os) (some g) := by
  unfold sortWorldK putRowK
  refine ⟨rfl, rfl, rfl, by simp, fun k hk hne => ?_⟩
  rw [heap_grow_old _ _ (by simpa using hk)]
  have : g ≠ k := fun e => hne (by rw [e])
  simp [putRow, mapBlock, Sort.ahead, Array.getElem?_modify, this]
def cmpD (x y : EM) : Int := cmpB x.1.dom y.1.dom
theorem swoD : SWO (ltOf cmpD) where
  irrefl x := ordB.swo.irrefl x.1.dom
  trans x y z := ordB.swo.trans x.1.dom y.1.dom z.1.dom
  ntrans x y z := ordB.swo.ntrans x.1.dom y.1.dom z.1.dom
theorem entries_sorted (ps : List EM) (g cap : Nat) (w : World) (n : Nat) (hn : ps.length = n) (H : ERow w g ps) (hg : g < w.heap.size) (hb : n ≤ 1000000) :
    Calls Try.prog 68 #[.slice (some ⟨g, 0, none⟩) n cap, .func (.func 52) #[] #[]] w fun e w' =>
      e = .returned (.tuple #[]) ∧ ∃ (ts : List EM) (m : Nat) (os : Array Obj), ts.Perm ps ∧ SortedIn (ltOf cmpD) 0 ts.toArray.size ts.toArray ∧ w' = sortWorldK ecells 6 w g 0 m ts.toArray os := by
  subst hn
  have h := AnyQ.slices_SortFunc Try.laysSort68 6 Try.isAgg27 Try.sizeOf27 ecells (fun _ => rfl) ecells_one cmpD swoD 52 #[] g 0 cap ps.toArray w
    (enters_of Try.func52 (by kernel_rfl) rfl) (fun m os dk _ x y => (byDom_any x y _).mono (by rintro e w' ⟨rfl, os', rfl⟩; exact ⟨rfl, 0, os', rfl⟩)) H hg (by simp; omega)
  refine h.mono ?_
  rintro e w' ⟨rfl, d', m, os, hp, hs, rfl⟩
  have hz : d'.size = ps.length := by simpa using hp.1
  refine ⟨rfl, d'.toList, m, os, ?_, ?_, rfl⟩
  · have := hp.2.2
    simp at this
    rw [List.take_of_length_le (by simp [hz])] at this
    exact this
  · simpa [hz] using hs
theorem asc_sortedE {d : Array EM} (hn : (d.toList.map (·.1.dom)).Nodup) (hs : SortedIn (ltOf cmpD) 0 d.size d) : AscE (d.toList.map (·.1)) := by
  unfold AscE
  rw [List.pairwise_map, List.pairwise_iff_getElem]
  intro i j hi hj hij
  simp at hi hj
  have := hs i j (Nat.zero_le _) hij hj
  rw [getElem!_pos _ i hi, getElem!_pos _ j hj] at this
  simp [ltOf, cmpD] at this
  have hsw := cmpB_swap d[i].1.dom d[j].1.dom
  have hne : cmpB d[i].1.dom d[j].1.dom ≠ 0 := fun e => by
    have e' := cmpB_eq e
    have := nodup_inj hn (i := i) (j := j) (by simpa using hi) (by simpa using hj) (by simpa using e')
    omega
  have h0 := of_decide_eq_false this
  simp
  omega

/-- The entries of a map, by their domains. -/
structure ByDom (l : CM) (ps : List EM) : Prop where
  asc : AscE (ps.map (·.1))
  perm : ps.Perm (l.map (·.2))
theorem doms_nodup {W : World} {b : Nat} {l : CM} (h : MapAt W b str evp l) (hk : ∀ q ∈ l, q.2.1.dom = q.1) {ps : List EM} (hp : ps.Perm (l.map (·.2))) : (ps.map (·.1.dom)).Nodup := by
  have h1 : (l.map (·.2)).map (·.1.dom) = l.map (·.1) := by
    rw [List.map_map]
    exact List.map_congr_left hk
  have h2 := hp.map (·.1.dom)
  rw [h1] at h2
  exact h2.nodup_iff.2 h.nodup

set_option maxRecDepth 100000 in
set_option maxHeartbeats 1000000 in
theorem sorted_in (Bm b : Nat) (l : CM) (w : World) (hm : w.cell? ⟨Bm, 0, none⟩ = some (.map (some b))) (hmap : MapAt w b str evp l) (hkey : ∀ q ∈ l, q.2.1.dom = q.1) (hl : l.length ≤ 1000000) :
    Calls Try.prog 50 #[.func (.func 69) #[] #[.pointer (some ⟨Bm, 0, none⟩)], .func (.func 52) #[] #[]] w fun e w' =>
      ∃ (v : Value) (ps : List EM), e = .returned v ∧ ByDom l ps ∧ w'.ownsRow w.heap.size 27 6 v ps.length (ec ps) ∧ Below w.heap.size w w' := by
  have hcol : ∀ w, Below w.heap.size w w → w.cell? ⟨Bm, 0, none⟩ = some (.map (some b)) → MapAt w b str evp l → Calls Try.prog 67 #[.func (.func 69) #[] #[.pointer (some ⟨Bm, 0, none⟩)]] w fun e w' => ∃ (v : Value) (ps : List EM), e = .returned v ∧ ps.Perm (l.map (·.2)) ∧ w'.ownsRow w.heap.size 27 6 v ps.length (ec ps) ∧ (v = .slice none 0 0 ↔ ps = []) ∧ Below w.heap.size w w' := by
    intro w _ hm hmap
    have hA := (callsIn_wide (n := 8)).1 (appendSeq_in 8 l.length 69 #[.pointer (some ⟨Bm, 0, none⟩)] hl (by decide) (enters_of Try.func69 (by kernel_rfl) rfl) (fun xs => xs.Perm (l.map (·.2))) w (fun w' hb => vals_stops 7 Bm b l w' ((hb.cell (cell_lt hm)).trans hm) (hmap.below hb hmap.lt)))
    go_enter Try.func67, Try.ntmps67
    go_wp2_with fail
    refine hA.mono ?_
    rintro e w' ⟨v, ps, rfl, hS, ho, hn, hb⟩
    go_wp2
    refine bodyPost_ret (v := v) (by simp [results, Try.results67, go_sem]) rfl ?_
    exact ⟨v, ps, rfl, hS, ho, hn, hb⟩
  have hC := hcol w (Below.refl _ _) hm hmap
  have hlen : ∀ ps : List EM, ps.Perm (l.map (·.2)) → ps.length = l.length := fun ps h => by simpa using h.length_eq
  go_enter Try.func50, Try.ntmps50
  go_wp2_with fail
  refine hC.mono ?_
  rintro e W ⟨v, ps, rfl, hS, ho, hn, hb⟩
  rcases ho.2 with ⟨rfl, h0⟩ | ⟨g, cap, cur, rfl, hgb, hgc, hcap, hcm, hcs, htk⟩
  · have hps : ps = [] := hn.1 rfl
    subst hps
    go_wp2_with fail
    refine (AnyF.slices_SortFunc_none Try.laysSort68 none 0 _ _).mono ?_
    rintro e w' ⟨rfl, rfl⟩
    go_wp2
    refine bodyPost_ret (v := .slice none 0 0) (by simp [results, Try.results50, go_sem]) rfl ?_
    exact ⟨_, [], rfl, ⟨List.Pairwise.nil, hS⟩, ho, hb⟩
  · have H := erow_own hgc htk
    have hglt : g < W.heap.size := (Array.getElem?_eq_some_iff.1 hgc).1
    have hle : ps.length ≤ 1000000 := by rw [hlen ps hS]; exact hl
    clear hlen
    go_wp2_with fail
    refine (entries_sorted ps g cap W ps.length rfl H hglt hle).mono ?_
    rintro e w' ⟨rfl, ts, m, os, hp, hs, rfl⟩
    have htl : ts.length = ps.length := hp.length_eq
    have ho2 := own_sortedE (m := m) (os := os) htl hgb hgc hcap hcm hcs
    have hg2 := grownBy_sortedE (w := W) (g := g) (m := m) (os := os) ts.toArray
    obtain ⟨W2, hW2⟩ : ∃ W2, W2 = sortWorldK ecells 6 W g 0 m ts.toArray os := ⟨_, rfl⟩
    rw [← hW2] at ho2 hg2 ⊢
    clear hW2
    go_wp2
    refine bodyPost_ret (v := .slice (some ⟨g, 0, none⟩) ps.length cap) (by simp [results, Try.results50, go_sem]) rfl ?_
    refine ⟨_, ts, rfl, ⟨?_, hp.trans hS⟩, by rw [htl]; exact ho2, hb.grown hg2 hb.size (fun k e => by cases e; exact hgb)⟩
    exact asc_sortedE (d := ts.toArray) (doms_nodup hmap hkey (hp.trans hS)) hs

theorem byDom_ents {l : CM} {L : List PE} {ps : List EM} (h : Ents l L) (hp : ByDom l ps) : ps.map (·.1) = L := by
  refine AscE.uniq hp.asc h.asc fun x => ?_
  rw [h.mem, (hp.perm.map (·.1)).mem_iff, List.map_map]
  rfl
theorem byDom_mem {l : CM} {ps : List EM} (hp : ByDom l ps) {x : EM} (hx : x ∈ ps) : ∃ k, (k, x) ∈ l := by
  obtain ⟨q, hq, rfl⟩ := List.mem_map.1 (hp.perm.mem_iff.1 hx)
  exact ⟨q.1, hq⟩
/-- A slice of entries of the call's own. -/
def OwnE (W : World) (base : Nat) (B : Nat → Prop) (v : Value) (ps : List EM) : Prop := W.ownsRow base 27 6 v ps.length (ec ps) ∧ ∀ x ∈ ps, MxAt W B x.2 x.1.mx

set_option maxRecDepth 100000 in
/-- list: the entries by their domains; their texts are those of the cache. -/
theorem list_any (b bm : Nat) (most : Int) (B : Nat → Prop) (L : List PE) (w : World) (h : CacheIs w B b bm most L) (hl : L.length ≤ 1000) :
    Calls Try.prog 28 #[.pointer (some ⟨b, 0, none⟩)] w fun e w' => ∃ (v : Value) (ps : List EM), e = .returned v ∧ ps.map (·.1) = L ∧ OwnE w' w.heap.size B v ps ∧ Below w.heap.size w w' := by
  obtain ⟨l, hc, hE⟩ := h
  have hll : l.length ≤ 1000000 := by
    have h1 : (l.map (·.2.1)).Nodup := by
      have h2 : (l.map (·.2.1)).map (·.dom) = l.map (·.1) := by
        rw [List.map_map]
        exact List.map_congr_left hc.key
      exact List.Pairwise.of_map (S := fun a b => a ≠ b) (fun p : PE => p.dom) (fun a b h e => h (by rw [e])) (by rw [h2]; exact hc.map.nodup)
    have := sub_len h1 (m := L) (fun p hp => (hE.mem p).2 hp)
    simp at this
    omega
  obtain ⟨c0, c1⟩ := hc.cells
  obtain ⟨W, hW⟩ : ∃ W, W = w.alloc (.cells #[.map (some bm)] 65) := ⟨_, rfl⟩
  have hB : Below w.heap.size w W := by rw [hW]; exact (Below.refl _ w).alloc (Nat.le_refl _) _
  have hbox : W.cell? ⟨w.heap.size, 0, none⟩ = some (.map (some bm)) := by rw [hW]; simp
  have hS := sorted_in w.heap.size bm l W hbox (hc.map.below hB hc.map.lt) hc.key hll
  have HH := Lib.hid (And.intro hB (And.intro hE hc))
  have hV : Calls Try.prog 51 #[.map (some bm)] w fun e w' => e = .returned (.func (.func 69) #[] #[.pointer (some ⟨w.heap.size, 0, none⟩)]) ∧ w' = W := by
    rw [hW]
    go_enter Try.func51, Try.ntmps51
    go_wp2
    go_ret
    exact ⟨rfl, rfl⟩
  clear hB hbox hW hE hc hll
  go_enter Try.func28, Try.ntmps28
  go_wp2_with fail
  refine hV.mono ?_
  rintro e w' ⟨rfl, rfl⟩
  go_wp2_with fail
  refine hS.mono ?_
  rintro e w2 ⟨v, ps, rfl, hp, ho, hb⟩
  have ho2 := own_base ho HH.out.1.size
  have hB2 := HH.out.1.trans (hb.mono HH.out.1.size)
  go_wp2
  refine bodyPost_ret (v := v) (by simp [results, Try.results28, go_sem]) rfl ⟨v, ps, rfl, byDom_ents HH.out.2.1 hp, ⟨ho2, fun x hx => ?_⟩, hB2⟩
  obtain ⟨k, hk⟩ := byDom_mem hp hx
  exact (HH.out.2.2.mxs _ hk).below hB2
end Go.Proofs.Ytojhledbfaninaa
