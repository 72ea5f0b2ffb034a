/- The document's own tally: Add. -/
import Derived.Test.YthhcigmdocldnaaDoorRefI
import Derived.Test.YthhcigmdocldnaaDoorRefJ
import Derived.Test.YthhcigmdocldnaaDoorSpoil
import Derived.Deep.CutRange
import Derived.Deep.RegionLaw
namespace Go.Proofs.YthhcigmdocldnaaDoor
open Go Go.RowKit Go.Shelf Go.Sort

/-- What the document's Add answers. -/
def refAddB (names : Int) (ds : List Bytes) (r : Res) : Int := if okR r = false then 4 else if r.1.1 ∈ ds ∨ (ds.length : Int) < names then 0 else 41
/-- What was counted then. -/
def refAcc (names : Int) (ds : List Bytes) (acc : List Res) (r : Res) : List Res := if refAddB names ds r = 0 then acc ++ [r] else acc
/-- What the document's Add does. -/
def RAddPost (w : World) (base b : Nat) (names : Int) (acc : List Res) (r : Res) (e : Ending) (w' : World) : Prop := w.grownBy w' (some b) ∧ ∀ ds, Asc cmpB ds → (∀ d, d ∈ ds ↔ ∃ x ∈ acc, x.1.1 = d) → e = .returned (.int .i64 (refAddB names ds r)) ∧ RefAt w' base b names (refAcc names ds acc r)

theorem infoRes19 : (Tryd.prog.info? 56).map (fun i => (i.zero, i.size, i.bytes)) = some (some (.agg #[.string ⟨#[]⟩, .int .u8 0, .int .u8 0]), 3, 24) := by kernel_rfl

theorem row_block {w : World} {b c m : Nat} {cs : Array Value} {t : TypeId} {fr : Nat × Nat} (h : w.heap[b]? = some (.cells cs t fr)) : RowIn w (b + 1) (.slice (some ⟨b, 0, none⟩) m c) m cs.toList :=
  .inr ⟨_, _, rfl, fun _ => Nat.lt_succ_self _, World.news_of_block h⟩
theorem grownBy_setCell (w : World) (a : Addr) (u : Value) : w.grownBy (w.setCell a u) (some a.block) :=
  ⟨rfl, rfl, rfl, by simp [World.setCell], fun k _ hne => Below.heap_setCell w a u k (fun e => hne (by rw [e]))⟩
theorem own_setCell {w : World} {base : Nat} {e : TypeId} {size : Nat} {v : Value} {n : Nat} {xs : List Value} (h : w.ownsRow base e size v n xs) {a : Addr} (u : Value) (ha : a.block < base) : (w.setCell a u).ownsRow base e size v n xs :=
  h.kept (grownBy_setCell w a u) (by
    cases hv : v.ownBlock with
    | none => exact .inl rfl
    | some k => exact .inr (fun e => by have := own_ge h k hv; injection e with e; omega))
theorem own_shape {w : World} {base : Nat} {e : TypeId} {size : Nat} {v : Value} {n : Nat} {xs : List Value} (h : w.ownsRow base e size v n xs) : ∃ p c, v = .slice p n c := by
  rcases h.2 with ⟨rfl, rfl⟩ | ⟨g, cap, cur, rfl, _⟩
  · exact ⟨none, 0, rfl⟩
  · exact ⟨_, _, rfl⟩
theorem fin_K {w3 : World} {H base b : Nat} {names : Int} {v u : Value} {acc : List Res} {d : Bytes} {t x : Nat} (hb : w3.heap[b]? = some (.cells #[.int .i64 names, u] 53 (0, 0)))
    (ho : w3.ownsRow H 56 3 v (0 + acc.length + 1) ([] ++ acc.flatMap resCells ++ [.string ⟨d.toArray⟩, .int .u8 (t : Int), .int .u8 (x : Int)])) (hbH : b < H) (hbase : base ≤ H) : RefAt (w3.setCell ⟨b, 1, none⟩ v) base b names (acc ++ [((d, t), x)]) := by
  refine ⟨v, heap_setCell_self hb, ?_⟩
  have e : (acc ++ [((d, t), x)]).flatMap resCells = [] ++ acc.flatMap resCells ++ [.string ⟨d.toArray⟩, .int .u8 (t : Int), .int .u8 (x : Int)] := by simp [resCells]
  have e2 : (acc ++ [((d, t), x)]).length = 0 + acc.length + 1 := by simp
  rw [e, e2]
  exact own_base (own_setCell ho v hbH) hbase
theorem refAddB_zero {names : Int} {ds : List Bytes} {r : Res} (hok : okR r = true) (h : r.1.1 ∈ ds ∨ (ds.length : Int) < names) : refAddB names ds r = 0 := by
  unfold refAddB
  rw [hok, if_neg (by simp), if_pos h]
theorem refAddB_full {names : Int} {ds : List Bytes} {r : Res} (hok : okR r = true) (h : ¬ (r.1.1 ∈ ds ∨ (ds.length : Int) < names)) : refAddB names ds r = 41 := by
  unfold refAddB
  rw [hok, if_neg (by simp), if_neg h]

set_option maxRecDepth 100000 in
set_option maxHeartbeats 2000000 in
theorem refAdd_any (w : World) (base b : Nat) (names : Int) (acc : List Res) (r : Res) (h : RefAt w base b names acc) (hbase : base ≤ w.heap.size) (hn : acc.length ≤ 900) (hs : ∀ x ∈ acc, x.1.1.length ≤ 1000000) (hr : r.1.1.length ≤ 1000000) :
    Calls Tryd.prog 23 #[.pointer (some ⟨b, 0, none⟩), .agg #[.string ⟨r.1.1.toArray⟩, .int .u8 (r.1.2 : Int), .int .u8 (r.2 : Int)]] w (RAddPost w base b names acc r) := by
  have hbl := h.lt
  have HH := Lib.hid (And.intro h (And.intro hbase (And.intro hn (And.intro hs hr))))
  have hM := fun W => refMay19_any r W hr
  clear h hbase hs
  obtain ⟨⟨d, t⟩, x⟩ := r
  dsimp only at hM hr ⊢
  have hdl : d.length ≤ 1000000 := hr
  clear hr hn
  go_enter Tryd.func23, Tryd.ntmps23
  go_wp2_with fail
  obtain ⟨W, hW⟩ : ∃ W, W = w.alloc (.cells #[.string ⟨d.toArray⟩, .int .u8 (t : Int), .int .u8 (x : Int)] 56) := ⟨_, rfl⟩
  rw [← hW]
  have hB : Below w.heap.size w W := by rw [hW]; exact (Below.refl _ w).alloc (Nat.le_refl _) _
  have hbox : W.heap[w.heap.size]? = some (.cells #[.string ⟨d.toArray⟩, .int .u8 (t : Int), .int .u8 (x : Int)] 56 (0, 0)) := by rw [hW]; exact ha_eq rfl
  have hM1 := hM W
  have HB := Lib.hid (And.intro hB hbox)
  clear hW hB hbox hM
  refine hM1.mono ?_
  rintro e w1 ⟨rfl, hB1⟩
  have hBw1 : Below w.heap.size w w1 := HB.out.1.trans (Below.less hB1 HB.out.1.size)
  have hbox1 := (hB1.block _ (Array.getElem?_eq_some_iff.1 HB.out.2).1).trans HB.out.2
  have H1 := Lib.hid (And.intro hBw1 hbox1)
  clear hB1 hM1 HB hBw1 hbox1
  cases hok : okR ((d, t), x)
  · have hans : ∀ ds, refAddB names ds ((d, t), x) = 4 := fun ds => by unfold refAddB; rw [if_pos hok]
    have HA := Lib.hid hans
    clear hok hans
    go_wp2
    refine bodyPost_ret (v := .int .i64 4) (by simp [results, Tryd.results23, go_sem]) rfl ?_
    refine ⟨grownBy_of_below H1.out.1 _, fun ds _ _ => ⟨by rw [HA.out], ?_⟩⟩
    have : refAcc names ds acc ((d, t), x) = acc := by unfold refAcc; rw [HA.out]; rfl
    rw [this]
    exact HH.out.1.below H1.out.1
  · have hRef1 : RefAt w1 base b names acc := HH.out.1.below H1.out.1
    have hD := refDomains_any w1 base b names acc hRef1 (by have := HH.out.2.2.1; omega) HH.out.2.2.2.1
    have HK := Lib.hid (And.intro hok hRef1)
    clear hok hRef1
    go_wp2_with fail
    refine hD.mono ?_
    rintro e w2 ⟨v, ds, rfl, hasc, hmem, hown, hB2⟩
    have hdl2 : ds.length ≤ 1000 := by
      have := sub_len (l := ds) (m := acc.map fun y => y.1.1) (hasc.nodup ordB) (fun y hy => by obtain ⟨z, hz, e⟩ := (hmem y).1 hy; exact List.mem_map.2 ⟨z, hz, e⟩)
      rw [List.length_map] at this
      have := HH.out.2.2.1
      omega
    obtain ⟨p, c, rfl, hcells⟩ := strs_at hown
    have H2 := Lib.hid (And.intro hasc (And.intro hmem (And.intro hcells hB2)))
    clear hasc hmem hcells hown hB2 hD
    go_wp2_with fail
    go_loopw [6, 7] (fun hv iv wr => ∃ i m : Nat, iv = .int .i64 (i : Int) ∧ hv = .bool (decide (d ∈ ds.take i)) ∧ i ≤ ds.length ∧ wr = w2.drewN m)
      (fun _ iv _ => ds.length - natI iv)
    case atStart => exact ⟨0, 0, rfl, by simp, Nat.zero_le _, rfl⟩
    case round =>
      obtain ⟨i, m, rfl, rfl, hi, rfl⟩ := hrel
      by_cases hlast : i < ds.length
      · have hli : (i : Int) < (ds.length : Int) := by omega
        obtain ⟨g, rfl, hcap, c0⟩ := H2.out.2.2.1 i hlast
        have hbox2 := (H2.out.2.2.2.block _ (Array.getElem?_eq_some_iff.1 H1.out.2).1).trans H1.out.2
        have x0 : w2.cell? ⟨w.heap.size, 0, none⟩ = some (.string ⟨d.toArray⟩) := by simp [World.cell?, hbox2]
        have htk : (d ∈ ds.take (i + 1)) ↔ (d ∈ ds.take i ∨ d = ds[i]) := by
          rw [List.take_succ_eq_append_getElem hlast, List.mem_append, List.mem_singleton]
        clear hbox2
        by_cases hin : d ∈ ds.take i
        · have hd : decide (d ∈ ds.take i) = true := decide_eq_true hin
          have hd2 : decide (d ∈ ds.take (i + 1)) = true := decide_eq_true (htk.2 (.inl hin))
          simp only [hd]
          have HX := Lib.hid hd2
          clear htk hin hd hd2
          go_wp2_with fail
          go_quiet (fail)
          go_wp2
          go_roundw
          case rel => exact ⟨i + 1, _, by simp, by rw [HX.out], by omega, by first | rfl | exact World.drewN_drewN _ _ _⟩
          case measure => simp [natI]; omega
        · have hd : decide (d ∈ ds.take i) = false := decide_eq_false hin
          simp only [hd]
          by_cases he : ds[i] = d
          · have hd2 : decide (d ∈ ds.take (i + 1)) = true := decide_eq_true (htk.2 (.inr he.symm))
            have HX := Lib.hid hd2
            rw [he] at c0
            have f : ((⟨d.toArray⟩ : ByteArray).toList == (⟨d.toArray⟩ : ByteArray).toList) = true := beq_self_eq_true _
            generalize (⟨d.toArray⟩ : ByteArray) = sd at c0 x0 f
            clear htk hin hd hd2 he
            go_wp2_with fail
            go_quiet (fail)
            go_wp2
            go_roundw
            case rel => exact ⟨i + 1, _, by simp, by rw [HX.out], by omega, by first | rfl | exact World.drewN_drewN _ _ _⟩
            case measure => simp [natI]; omega
          · have hd2 : decide (d ∈ ds.take (i + 1)) = false := decide_eq_false (fun h => (htk.1 h).elim hin (fun e => he e.symm))
            have HX := Lib.hid hd2
            have h5 : (⟨ds[i].toArray⟩ : ByteArray).toList = ds[i] := by simp [ByteArray.toList_eq]
            have h6 : (⟨d.toArray⟩ : ByteArray).toList = d := by simp [ByteArray.toList_eq]
            have f : ((⟨ds[i].toArray⟩ : ByteArray).toList == (⟨d.toArray⟩ : ByteArray).toList) = false := by
              rw [h5, h6]
              simpa using he
            generalize (⟨ds[i].toArray⟩ : ByteArray) = se at c0 f h5
            generalize (⟨d.toArray⟩ : ByteArray) = sd at c0 x0 f h6
            clear htk hin hd hd2 he h5 h6
            go_wp2_with fail
            go_quiet (fail)
            go_wp2
            go_roundw
            case rel => exact ⟨i + 1, _, by simp, by rw [HX.out], by omega, by first | rfl | exact World.drewN_drewN _ _ _⟩
            case measure => simp [natI]; omega
      · have hli : ¬ (i : Int) < (ds.length : Int) := by omega
        obtain rfl : i = ds.length := by omega
        have htk : ds.take ds.length = ds := List.take_length
        simp only [htk]
        have hasc := H2.out.1
        have hmem := H2.out.2.1
        have hall : ∀ ds', Asc cmpB ds' → (∀ d, d ∈ ds' ↔ ∃ x ∈ acc, x.1.1 = d) → ds' = ds := fun ds' ha hm => Asc.uniq ordB ha hasc fun d => by rw [hm, hmem]
        have hBq : Below w.heap.size w (w2.drewN m) := below_drewN (H1.out.1.trans (Below.less H2.out.2.2.2 H1.out.1.size)) _
        obtain ⟨wq, hwq⟩ : ∃ wq, wq = w2.drewN m := ⟨_, rfl⟩
        rw [← hwq] at hBq ⊢
        have hboxq : wq.heap[w.heap.size]? = some (.cells #[.string ⟨d.toArray⟩, .int .u8 (t : Int), .int .u8 (x : Int)] 56 (0, 0)) := by
          rw [hwq]; exact (H2.out.2.2.2.block _ (Array.getElem?_eq_some_iff.1 H1.out.2).1).trans H1.out.2
        obtain ⟨v, hb0, ho0⟩ := HH.out.1
        have hbq : wq.heap[b]? = some (.cells #[.int .i64 names, v] 53 (0, 0)) := (hBq.block b hbl).trans hb0
        have hoq := own_below ho0 hBq
        have hsh : ∃ p c, v = .slice p acc.length c := by
          rcases ho0.2 with ⟨e, h0⟩ | ⟨g, cap, cur, e, _⟩
          · exact ⟨none, 0, by rw [e, h0]⟩
          · exact ⟨_, _, e⟩
        obtain ⟨p', c', rfl⟩ := hsh
        have hRow := own_rowIn hoq
        have q0 : wq.cell? ⟨b, 0, none⟩ = some (.int .i64 names) := by simp [World.cell?, hbq]
        have q1 : wq.cell? ⟨b, 1, none⟩ = some (.slice p' acc.length c') := by simp [World.cell?, hbq]
        have HQ := Lib.hid (And.intro hall (And.intro hBq (And.intro hboxq (And.intro hbq (And.intro hRow hoq)))))
        have hokk := HK.out.1
        clear hasc hmem hall hBq hwq hboxq hb0 ho0 hbq hRow hoq htk hi H1 H2 HK hbl
        by_cases hfull : ¬ (d ∈ ds ∨ (ds.length : Int) < names)
        · have h1 : decide (d ∈ ds) = false := decide_eq_false (fun h => hfull (.inl h))
          have h2 : ¬ (ds.length : Int) < names := fun h => hfull (.inr h)
          have h3 : names ≤ (ds.length : Int) := by omega
          have HF := Lib.hid (And.intro hokk hfull)
          simp only [h1]
          clear hfull hokk h1
          go_wp2
          refine bodyPost_ret (v := .int .i64 41) (by simp [results, Tryd.results23, go_sem]) rfl ?_
          refine ⟨grownBy_of_below HQ.out.2.1 _, fun ds' ha hm => ?_⟩
          obtain rfl := HQ.out.1 ds' ha hm
          have hz := refAddB_full (r := ((d, t), x)) HF.out.1 HF.out.2
          refine ⟨by rw [hz], ?_⟩
          have : refAcc names ds' acc ((d, t), x) = acc := by unfold refAcc; rw [hz]; rfl
          rw [this]
          exact HH.out.1.below HQ.out.2.1
        · have hfull' : d ∈ ds ∨ (ds.length : Int) < names := Classical.not_not.1 hfull
          have hz := refAddB_zero (r := ((d, t), x)) hokk hfull'
          obtain ⟨i9, hi9, hr0, hr1, hr2⟩ := info_parts infoRes19
          have keepH : ∀ W' : World, W'.heap[w.heap.size]? = some (.cells #[.string ⟨d.toArray⟩, .int .u8 (t : Int), .int .u8 (x : Int)] 56 (0, 0)) → W'.cell? ⟨w.heap.size, 0, none⟩ = some (.string ⟨d.toArray⟩) ∧ W'.cell? ⟨w.heap.size, 1, none⟩ = some (.int .u8 (t : Int)) ∧ W'.cell? ⟨w.heap.size, 2, none⟩ = some (.int .u8 (x : Int)) := fun W' h => by
            refine ⟨?_, ?_, ?_⟩ <;> simp [World.cell?, h]
          have keepS : ∀ W', Below wq.heap.size wq W' → W'.cell? ⟨w.heap.size, 0, none⟩ = some (.string ⟨d.toArray⟩) ∧ W'.cell? ⟨w.heap.size, 1, none⟩ = some (.int .u8 (t : Int)) ∧ W'.cell? ⟨w.heap.size, 2, none⟩ = some (.int .u8 (x : Int)) :=
            fun W' hb => keepH W' ((hb.block _ (Array.getElem?_eq_some_iff.1 HQ.out.2.2.1).1).trans HQ.out.2.2.1)
          have hbl : b < w.heap.size := HH.out.1.lt
          have hblq : b < wq.heap.size := Nat.lt_of_lt_of_le hbl HQ.out.2.1.size
          have hal1 : ∀ o, (wq.alloc o).cell? ⟨b, 1, none⟩ = some (.slice p' acc.length c') := fun o => (World.cell?_alloc_lt _ _ _ hblq).trans q1
          have hal2 : ∀ o o', ((wq.alloc o).alloc o').cell? ⟨b, 1, none⟩ = some (.slice p' acc.length c') := fun o o' => (World.cell?_alloc_lt _ _ _ (by simp; omega)).trans (hal1 o)
          have hcs : decide (d ∈ ds) = true ∨ (decide (d ∈ ds) = false ∧ (ds.length : Int) < names) := by
            by_cases hd : d ∈ ds
            · exact .inl (decide_eq_true hd)
            · exact .inr ⟨decide_eq_false hd, hfull'.resolve_left hd⟩
          have HZ := Lib.hid (And.intro hz (And.intro hbl hblq))
          clear hz hfull hfull' hokk hbl
          go_upto_region 9 with (fail)
          go_cut [6, 39] from 29 (fun _ s39 w' => s39 = .bool false ∧ w' = wq)
          case first =>
            rcases hcs with h1 | ⟨h1, h2⟩
            · simp only [h1]
              clear h1
              go_wp2
              go_meet
              case rel => exact ⟨rfl, rfl⟩
            · have h3 : ¬ names ≤ (ds.length : Int) := by omega
              simp only [h1]
              clear h1
              go_wp2
              go_meet
              case rel => exact ⟨rfl, rfl⟩
          case rest =>
            obtain ⟨rfl, rfl⟩ := hcut
            obtain ⟨bq0, bq1, bq2⟩ := keepS wc (Below.refl _ _)
            have hbx : ∀ o, (wc.alloc o).cell? ⟨w.heap.size, 0, none⟩ = some (.string ⟨d.toArray⟩) ∧ (wc.alloc o).cell? ⟨w.heap.size, 1, none⟩ = some (.int .u8 (t : Int)) ∧ (wc.alloc o).cell? ⟨w.heap.size, 2, none⟩ = some (.int .u8 (x : Int)) := fun o => keepS _ ((Below.refl _ _).alloc (Nat.le_refl _) _)
            have hbx0 := fun o => (hbx o).1
            have hbx1 := fun o => (hbx o).2.1
            have hbx2 := fun o => (hbx o).2.2
            clear hbx
            go_wp2_with fail
            go_region_law
              ((first
                | (refine step_append_any (P := Tryd.prog) rfl _ _ _ rfl wc.heap.size 56 i9 (.agg #[.string ⟨#[]⟩, .int .u8 0, .int .u8 0]) 3 24 Tryd.underlying51 hi9 hr0 hr1 hr2 rfl (by decide) (.slice (some ⟨_, 0, none⟩) 0 0) 0 [] rfl (own_empty (by first | exact heap_new (by simp) | exact (heap_old (by simp)).trans (heap_new (by simp))) (by simp)) wc.heap.size _ acc.length (acc.flatMap resCells) rfl (HQ.out.2.2.2.2.1.below (by first | exact below_drw ((Below.refl _ _).alloc (Nat.le_refl _) _) | exact below_drw (((Below.refl _ _).alloc (Nat.le_refl _) _).alloc (by simp) _))) HQ.out.2.2.2.2.2.1 (fun u hu => by obtain ⟨y, _, hy⟩ := List.mem_flatMap.1 hu; simp [resCells] at hy; rcases hy with rfl | rfl | rfl <;> rfl) (by have := HH.out.2.2.1; unfold maxLen; omega) (by have := HH.out.2.2.1; omega) (by simp <;> omega) ?_
                   intro v1 w1 ho1 hg1 hk1 _
                   have hB1 : Below wc.heap.size wc w1 := Below.grown (by first | exact below_drw ((Below.refl _ _).alloc (Nat.le_refl _) _) | exact below_drw (((Below.refl _ _).alloc (Nat.le_refl _) _).alloc (by simp) _)) hg1 (by simp <;> omega) hk1
                   obtain ⟨bx0, bx1, bx2⟩ := keepS w1 hB1)
                | (refine step_append_any (P := Tryd.prog) rfl _ _ _ rfl wc.heap.size 56 i9 (.agg #[.string ⟨#[]⟩, .int .u8 0, .int .u8 0]) 3 24 Tryd.underlying51 hi9 hr0 hr1 hr2 rfl (by decide) v1 (0 + acc.length) ([] ++ acc.flatMap resCells) rfl (by first | exact ho1 | exact own_below ho1 ((Below.refl _ _).alloc (Nat.le_refl _) _)) _ _ 1 [.string ⟨d.toArray⟩, .int .u8 (t : Int), .int .u8 (x : Int)] rfl (row_block (cs := #[.string ⟨d.toArray⟩, .int .u8 (t : Int), .int .u8 (x : Int)]) (by first | exact heap_new rfl | (refine (hg1.block _ (by simp <;> omega) (by simp [Value.ownBlock])).trans ?_; first | exact heap_new (by simp) | exact (heap_old (by simp)).trans (heap_new rfl)))) rfl (fun u hu => by simp at hu; rcases hu with rfl | rfl | rfl <;> rfl) (by have := HH.out.2.2.1; unfold maxLen; omega) (by have := HH.out.2.2.1; omega) (show Below wc.heap.size wc _ from (by first | exact hB1 | exact hB1.alloc hB1.size _)).size ?_
                   intro v2 w3 ho2 hg2 hk2 _
                   obtain ⟨p2, c2, hv2⟩ := own_shape ho2
                   subst hv2
                   have hB2 : Below wc.heap.size wc w3 := Below.grown (show Below wc.heap.size wc _ from (by first | exact hB1 | exact hB1.alloc hB1.size _)) hg2 (show Below wc.heap.size wc _ from (by first | exact hB1 | exact hB1.alloc hB1.size _)).size hk2
                   have kb2 : w3.heap[b]? = some (.cells #[.int .i64 names, .slice p' acc.length c'] 53 (0, 0)) := (hB2.block b HZ.out.2.2).trans HQ.out.2.2.2.1
                   have kc2 : w3.cell? ⟨b, 1, none⟩ = some (.slice p' acc.length c') := by simp [World.cell?, kb2]
                   have kf2 : w3.frozen? ⟨b, 1, none⟩ = false := by simp [World.frozen?, kb2])))
            all_goals (have hfin : RefAt (w3.setCell ⟨b, 1, none⟩ (.slice p2 (0 + acc.length + 1) c2)) base b names (acc ++ [((d, t), x)]) := fin_K (d := d) (t := t) (x := x) kb2 ho2 HZ.out.2.2 (Nat.le_trans HH.out.2.1 HQ.out.2.1.size))
            all_goals (have hgr : w.grownBy (w3.setCell ⟨b, 1, none⟩ (.slice p2 (0 + acc.length + 1) c2)) (some b) := (grownBy_of_below (HQ.out.2.1.trans (Below.less hB2 HQ.out.2.1.size)) (some b)).trans (grownBy_setCell w3 ⟨b, 1, none⟩ _))
            all_goals (rw [Nat.zero_add] at hfin hgr)
            all_goals (have HE := Lib.hid (And.intro hfin hgr))
            all_goals (clear hfin hgr hB2 kb2 kc2 kf2 ho2 hg2 hk2 ho1 hg1 hk1 hB1 keepS keepH)
            all_goals go_wp2
            all_goals (refine bodyPost_ret (v := .int .i64 0) (by simp [results, Tryd.results23, go_sem]) rfl ?_)
            all_goals (refine ⟨HE.out.2, fun ds' ha hm => ?_⟩)
            all_goals (obtain rfl := HQ.out.1 ds' ha hm)
            all_goals (exact ⟨by rw [HZ.out.1], by unfold refAcc; rw [HZ.out.1, if_pos rfl]; exact HE.out.1⟩)
end Go.Proofs.YthhcigmdocldnaaDoor
