/- head.fields: the walk of its iterator. -/
import Derived.Test.YtlpngibdplnieaaGreatDoorMf
import Derived.TacticsInMore
namespace Go.Proofs.YtlpngibdplnieaaGreatDoor
open Go Go.RowKit Go.Shelf Go.Sort
theorem fnWide2 (f : FuncId) : Fence.wide.fn f = True := rfl
attribute [local go_sem] bneI Oper.semAt_some fnWide2

def lenSum (L : List Bytes) : Nat := (L.map List.length).foldr (· + ·) 0
theorem lenSum_cons (x : Bytes) (L : List Bytes) : lenSum (x :: L) = x.length + lenSum L := rfl
theorem linesF_sum : ∀ (n : Nat) (s : Bytes), lenSum (linesF n s).1 + 2 * (linesF n s).1.length ≤ s.length
  | 0, s => by simp [linesF, lenSum]
  | n + 1, s => by
    unfold linesF
    rcases index_cut s with ⟨h1, h2⟩ | ⟨i, h1, h2, h3⟩
    · rw [h2]; simp [lenSum]
    · rw [h3]
      have := linesF_sum n (s.drop (i + 2))
      simp only [List.length_drop] at this
      simp only [lenSum_cons, List.length_cons, List.length_take]
      omega
theorem contains_blank (c : UInt8) : Lib.contains [32, 9] [c] = blankB c := by
  unfold Lib.contains blankB
  by_cases h1 : c = 32
  · subst h1; rfl
  · by_cases h2 : c = 9
    · subst h2; rfl
    · have e1 : (c == 32) = false := by simpa using h1
      have e2 : (c == 9) = false := by simpa using h2
      rw [e1, e2]
      have : Lib.index [32, 9] [c] = -1 := by
        simp [Lib.index, List.isPrefixOf, e1, e2]
      rw [this]; rfl
/-- How far the fields of a text have been told. -/
structure FldI (L : List Bytes) (i : Nat) (pre : List (Bytes × Bytes)) (now : Option (Bytes × Bytes)) : Prop where
  le : i ≤ L.length
  told : fieldsF none L = pre ++ fieldsF now (L.drop i)
  many : pre.length + (tellB now).length ≤ i
  fits : ∀ p, now = some p → p.1.length ≤ 1000000 ∧ p.2.length + lenSum (L.drop i) ≤ 1000000
  sum : lenSum (L.drop i) ≤ 1000000
theorem drop_cons {L : List Bytes} {i : Nat} (hi : i < L.length) : L.drop i = L[i] :: L.drop (i + 1) := List.drop_eq_getElem_cons hi
theorem FldI.on {L : List Bytes} {i : Nat} {pre : List (Bytes × Bytes)} {p : Bytes × Bytes} (h : FldI L i pre (some p)) (hi : i < L.length) (hg : goesOn (some p) L[i] = true) : FldI L (i + 1) pre (some (p.1, p.2 ++ L[i])) := by
  have hs := h.sum
  have hf := h.fits p rfl
  rw [drop_cons hi, lenSum_cons] at hs hf
  refine ⟨hi, ?_, by have := h.many; simp [tellB] at this ⊢; omega, fun q e => ?_, by omega⟩
  · rw [h.told, drop_cons hi, fieldsF, if_pos hg]; rfl
  · cases e
    exact ⟨hf.1, by simp; omega⟩
theorem FldI.stop {L : List Bytes} {i : Nat} {pre : List (Bytes × Bytes)} {now : Option (Bytes × Bytes)} (h : FldI L i pre now) (hi : i < L.length) (hg : goesOn now L[i] = false) (hb : beginsB L[i] = none) : fieldsF none L = pre ++ tellB now := by
  rw [h.told, drop_cons hi, fieldsF, if_neg (by rw [hg]; simp), hb]
  simp
theorem FldI.next {L : List Bytes} {i : Nat} {pre : List (Bytes × Bytes)} {now : Option (Bytes × Bytes)} (h : FldI L i pre now) (hi : i < L.length) (hg : goesOn now L[i] = false) {f : Bytes × Bytes} (hb : beginsB L[i] = some f) (h1 : f.1.length ≤ L[i].length) (h2 : f.2.length ≤ L[i].length) : FldI L (i + 1) (pre ++ tellB now) (some f) := by
  have hs := h.sum
  rw [drop_cons hi, lenSum_cons] at hs
  refine ⟨hi, ?_, by have := h.many; simp [tellB] at this ⊢; omega, fun q e => ?_, by omega⟩
  · rw [h.told, drop_cons hi, fieldsF, if_neg (by rw [hg]; simp), hb]
    simp
  · cases e; exact ⟨by omega, by omega⟩
theorem FldI.done {L : List Bytes} {i : Nat} {pre : List (Bytes × Bytes)} {now : Option (Bytes × Bytes)} (h : FldI L i pre now) (hi : ¬ i < L.length) : fieldsF none L = pre ++ tellB now := by
  rw [h.told, List.drop_of_length_le (by omega), fieldsF]
theorem FldI.zero {L : List Bytes} (h : lenSum L ≤ 1000000) : FldI L 0 [] none := ⟨Nat.zero_le _, by simp, by simp [tellB], (fun p e => by cases e), by simpa using h⟩
/-- What may be told. -/
def FldY (s : Bytes) (pre : List (Bytes × Bytes)) (x : Bytes × Bytes) : Prop := pre.length ≤ s.length ∧ x.1.length ≤ 1000000 ∧ x.2.length ≤ 1000000
theorem trimB_le (s : Bytes) : (trimB s).length ≤ s.length := by
  unfold trimB
  refine Nat.le_trans (List.dropWhile_sublist _).length_le ?_
  rw [List.length_reverse]
  refine Nat.le_trans (List.dropWhile_sublist _).length_le ?_
  rw [List.length_reverse]
  exact Nat.le_refl _

set_option maxRecDepth 100000 in
set_option maxHeartbeats 4000000 in
theorem fields1_in (n l Bs bo : Nat) (s : Bytes) (hs : s.length ≤ 1000000) (J : List (Bytes × Bytes) → World → Prop)
    (W : World) (hJ : AbidesF W.heap.size bo J) (hJo : ∀ pre W1, J pre W1 → (∃ o, W1.heap[bo]? = some o ∧ o.isCells = true) ∧ ∀ r, OwnB bo W1 r → r < W1.heap.size)
    (hY : ∀ pre x W1, J pre W1 → FldY s pre x → YieldAt Fence.wide (n - 1) Tryz.prog l (fiE x) W1 fun e W' => e = .returned (.bool true) ∧ J (pre ++ [x]) W' ∧ KeepsF bo W1 W')
    (hB : W.heap[Bs]? = some (.cells #[str s] 9 (0, 0))) (hg : Glob W) (h0 : J [] W) (hcap : ¬ OwnB bo W 1) :
    CallsIn Fence.wide n Tryz.prog 252 #[.func (.yield l) #[] #[], .pointer (some ⟨Bs, 0, none⟩)] W fun e W' => (∃ v, e = .returned v) ∧ ∃ xs, xs = fieldsB s ∧ J xs W' := by
  refine callsIn_of_wp Tryz.func252 rfl trivial ?_ rfl
  simp only [Tryz.ntmps252, List.size_toArray, List.length_cons, List.length_nil, Nat.reduceAdd, Nat.reduceSub, Array.replicate_succ, Array.replicate_zero, List.push_toArray, List.append_toArray, List.nil_append, List.cons_append]
  have hbs := (box_cell hB).1
  unfold str at hbs
  have hBlt : Bs < W.heap.size := lt_of_cells hB
  obtain ⟨W2, hW2⟩ : ∃ W2, W2 = (W.alloc (.cells #[.func (.yield l) #[] #[]] 221)).alloc (.cells #[.pointer none] 266) := ⟨_, rfl⟩
  have hB2 : Below W.heap.size W W2 := by rw [hW2]; exact ((Below.refl _ _).alloc (Nat.le_refl _) _).alloc (by simp) _
  have hy2 : W2.heap[W.heap.size]? = some (.cells #[.func (.yield l) #[] #[]] 221 (0, 0)) := by rw [hW2]; exact (ha_ne (by simp)).trans (ha_eq rfl)
  have hn2 : W2.heap[W.heap.size + 1]? = some (.cells #[.pointer none] 266 (0, 0)) := by rw [hW2]; exact ha_eq (by simp)
  have hsz2 : W2.heap.size = W.heap.size + 2 := by rw [hW2]; simp
  have hbs2 := (hB2.cell (p := ⟨Bs, 0, none⟩) hBlt).trans hbs
  have hcut := cut_any s W2 hs (hg.keep hB2)
  have H2 := Lib.hid (And.intro hB2 (And.intro hy2 (And.intro hn2 hsz2)))
  clear hB2 hy2 hn2 hsz2 hbs
  gi_upto_region 3 with (fail)
  rw [← hW2]
  clear hW2
  gi_wp2_with fail
  refine ⟨(fun h => by cases h), callsIn_wide.2 (hcut.mono ?_)⟩
  rintro e Wc ⟨⟨lv, rfl, hrow⟩, hBc⟩
  obtain ⟨L, hL⟩ : ∃ L, L = (linesB s).1 := ⟨_, rfl⟩
  have hLs := linesF_sum s.length s
  have hff : fieldsB s = fieldsF none L := by rw [hL]; rfl
  rw [← hL] at hrow
  rw [show linesF s.length s = linesB s from rfl, ← hL] at hLs
  generalize (linesB s).2 = rest at *
  clear hL hcut
  obtain ⟨p, c, hlv⟩ := own_shape hrow
  have hBW : Below W.heap.size W Wc := H2.out.1.trans (hBc.mono H2.out.1.size)
  have hyc : Wc.heap[W.heap.size]? = some (.cells #[.func (.yield l) #[] #[]] 221 (0, 0)) := (hBc.block _ (by have := H2.out.2.2.2; omega)).trans H2.out.2.1
  have hnc : Wc.heap[W.heap.size + 1]? = some (.cells #[.pointer none] 266 (0, 0)) := (hBc.block _ (by have := H2.out.2.2.2; omega)).trans H2.out.2.2.1
  have hge := own_ge hrow
  have hsz2 := H2.out.2.2.2
  have hC : FC W.heap.size Wc (W.heap.size + 1) W.heap.size lv l L := ⟨hyc, own_base hrow (by omega), by omega, fun e => by have := hge _ e; omega, fun e => by have := hge _ e; omega, by omega⟩
  have hown : ∀ r, OwnB bo Wc r ↔ OwnB bo W r := fun r => ownB_block (hBW.block bo (lt_of_cells (hJo [] W h0).1.choose_spec.1))
  have hnew : ∀ r, W.heap.size ≤ r → ¬ OwnB bo Wc r := fun r hr k => by have := (hJo [] W h0).2 r ((hown r).1 k); omega
  have hF : FI bo W.heap.size Wc (W.heap.size + 1) W.heap.size lv none Wc := ⟨Nat.le_refl _, hg.keep hBW, rfl, fun _ _ => rfl, hnc, hnew _ (by omega), hnew _ (Nat.le_refl _), fun k => hcap ((hown _).1 k), fun g hg' => hnew g (by have := hge g hg'; omega)⟩
  have hJc : J [] Wc := hJ _ _ _ none h0 (grownBy_of_below hBW none) (fun r e => by cases e)
  have hgl : 1 < W.heap.size := by obtain ⟨o, ho, _⟩ := hg.cells; exact lt_of_cells ho
  have HH := Lib.hid (And.intro hC (And.intro hgl (And.intro hff (And.intro hLs hJ))))
  have H0 := Lib.hid (And.intro hF hJc)
  have HJo := Lib.hid hJo
  clear hrow hBc hBW hyc hnc hge hsz2 hC hown hnew hF hJc hgl hff hJ hJo H2 hbs2 hcap h0 hB hg
  subst hlv
  have hLn : L.length ≤ 1000000 := by have := HH.out.2.2.2.1; omega
  gi_wp2_with fail
  gi_loopw [19] (fun s19 wr => ∃ (i : Nat) (pre : List (Bytes × Bytes)) (now : Option (Bytes × Bytes)), s19 = .int .i64 (i : Int) ∧ FldI L i pre now ∧ FI bo W.heap.size Wc (W.heap.size + 1) W.heap.size (.slice p L.length c) now wr ∧ J pre wr) (fun s19 _ => L.length - natI s19)
  case atStart => exact ⟨0, [], none, rfl, FldI.zero (by have := HH.out.2.2.2.1; omega), H0.out.1, H0.out.2⟩
  case round =>
    obtain ⟨i, pre, now, rfl, hfl, hfi, hj⟩ := hrel
    have HF := Lib.hid hfl
    have hnl : W.heap.size + 1 < wr.heap.size := hfi.nowb.lt
    have HI := Lib.hid (And.intro hnl (And.intro hfi (And.intro hj hnl)))
    clear hfl hfi hj
    by_cases hlast : i < L.length
    · have hli : (i : Int) < (L.length : Int) := by omega
      obtain ⟨g, rfl, hcell⟩ : ∃ g, p = some ⟨g, 0, none⟩ ∧ wr.cell? ⟨g, i, none⟩ = some (.string ⟨L[i].toArray⟩) := by
        obtain ⟨g, cap, hv, -⟩ := HH.out.1.row.form (by omega)
        injection hv with h1 h2 h3
        subst h1
        refine ⟨g, rfl, ?_⟩
        rw [World.cell?_of_block (HI.out.2.1.lb g rfl)]
        have := HH.out.1.row.cellAt i (by omega)
        rw [this, List.getElem?_map, List.getElem?_eq_getElem hlast]; rfl
      have hll : L[i].length ≤ 1000000 := by have h1 := HF.out.sum; rw [drop_cons hlast, lenSum_cons] at h1; omega
      obtain ⟨ln, hln⟩ : ∃ ln, ln = L[i] := ⟨_, rfl⟩
      rw [← hln] at hcell hll
      obtain ⟨m, hm⟩ := HI.out.2.1.glob
      have hY0 : True := trivial
      cases now with
      | none =>
          have HL := Lib.hid (And.intro hll (And.intro hll (And.intro (show goesOn none ln = false by rfl) hln)))
          clear hln hll
          have hnw : wr.heap[W.heap.size + 1]? = some (.cells #[.pointer none] 266 (0, 0)) := HI.out.2.1.nowb
          obtain ⟨k1, g1⟩ := box_cell hnw
          clear hnw
          -- begins, tell
          have hbg := begins_any ln wr HL.out.2.1 HI.out.2.1.glob
          clear hY0
          gi_wp2_with fail
          refine ⟨(fun h => by cases h), callsIn_wide.2 (hbg.mono ?_)⟩
          rintro e wa ⟨⟨n1, v1, is, rfl, hbe, hn1, hv1⟩, hba⟩
          clear hbg
          obtain ⟨wb, hwb⟩ : ∃ wb, wb = wa.alloc (.cells #[.string ⟨n1.toArray⟩, .string ⟨v1.toArray⟩] 220) := ⟨_, rfl⟩
          have hbb : Below wr.heap.size wr wb := by rw [hwb]; exact hba.alloc hba.size _
          have hfb := HI.out.2.1.below HH.out.1 hbb (lt_of_cells (HJo.out _ _ HI.out.2.2.1).1.choose_spec.1)
          have hjb := HH.out.2.2.2.2 _ _ _ none HI.out.2.2.1 (grownBy_of_below hbb none) (fun r e => by cases e)
          have hnb : wb.heap[wa.heap.size]? = some (.cells #[.string ⟨n1.toArray⟩, .string ⟨v1.toArray⟩] 220 (0, 0)) := by rw [hwb]; exact ha_eq rfl
          have hob : ∀ r, OwnB bo wb r ↔ OwnB bo wr r := fun r => ownB_block (hbb.block bo (lt_of_cells (HJo.out _ _ HI.out.2.2.1).1.choose_spec.1))
          have hna : ¬ OwnB bo wb wa.heap.size := fun k => by have h1 := (HJo.out _ _ HI.out.2.2.1).2 _ ((hob _).1 k); have h2 := hba.size; omega
          have hsa : wr.heap.size ≤ wa.heap.size := hba.size
          have hwbs : wa.heap.size < wb.heap.size := lt_of_cells hnb
          have HB := Lib.hid (And.intro hbb (And.intro hfb (And.intro hjb (And.intro hnb (And.intro hna hsa)))))
          have HE := Lib.hid (And.intro hbe (And.intro hn1 hv1))
          clear hba hbb hfb hjb hnb hob hna hsa hbe hn1 hv1
          gi_upto_region 10 with (fail)
          try rw [← hwb]
          clear hwb
          gi_wp2_with fail
          refine ⟨(fun h => by cases h), (tell_nil (n - 1) (W.heap.size + 1) W.heap.size wb (by exact HB.out.2.1.nowb)).mono ?_⟩
          rintro e wt ⟨rfl, hbt⟩
          have hft := HB.out.2.1.below HH.out.1 hbt (lt_of_cells (HJo.out _ _ HB.out.2.2.1).1.choose_spec.1)
          have hjt : J (pre ++ tellB none) wt := by
            rw [show pre ++ tellB none = pre by simp [tellB]]
            exact HH.out.2.2.2.2 _ _ _ none HB.out.2.2.1 (grownBy_of_below hbt none) (fun r e => by cases e)
          have hkb : ∀ b o, b < wb.heap.size → ¬ OwnB bo wb b → wb.heap[b]? = some o → o.isCells = true → wt.heap[b]? = some o ∧ ¬ OwnB bo wt b := fun b o hb hn ho _ => ⟨(hbt.block b hb).trans ho, fun k => hn ((ownB_block (hbt.block bo (lt_of_cells (HJo.out _ _ HB.out.2.2.1).1.choose_spec.1))).1 k)⟩
          have hszt : wb.heap.size ≤ wt.heap.size := hbt.size
          clear hbt
          have hnt := hkb wa.heap.size _ hwbs HB.out.2.2.2.2.1 HB.out.2.2.2.1 rfl
          have hlt : W.heap.size + 1 < wt.heap.size := hft.nowb.lt
          have hob2 : 1 < W.heap.size := HH.out.2.1
          obtain ⟨cw, hcw⟩ : ∃ cw, wt.heap[W.heap.size + 1]? = some (.cells #[cw] 266 (0, 0)) := by
            have := hft.nowb
            exact ⟨_, this⟩
          obtain ⟨k0, f0⟩ := box_cell hcw
          have hgr := fun u => grown_set wt (W.heap.size + 1) u
          have hf2 := hft.setNow HH.out.1 HH.out.2.1 (.pointer none) none (box_set _ hcw)
          have hj2 := HH.out.2.2.2.2 _ _ _ (some (W.heap.size + 1)) hjt (hgr (.pointer none)) (fun r e => by cases e; exact ⟨by omega, hft.o1⟩)
          have hnt2 : (wt.setCell ⟨W.heap.size + 1, 0, none⟩ (.pointer none)).heap[wa.heap.size]? = some (.cells #[.string ⟨n1.toArray⟩, .string ⟨v1.toArray⟩] 220 (0, 0)) := (Below.heap_setCell wt ⟨W.heap.size + 1, 0, none⟩ _ _ (by have := HI.out.2.1.nowb.lt; have := HB.out.2.2.2.2.2; show wa.heap.size ≠ W.heap.size + 1; omega)).trans hnt.1
          have hboo : bo ≠ W.heap.size + 1 := fun e => hft.o1 (.inl e.symm)
          have hnn2 : ¬ OwnB bo (wt.setCell ⟨W.heap.size + 1, 0, none⟩ (.pointer none)) wa.heap.size := fun k => hnt.2 ((ownB_block (Below.heap_setCell wt ⟨W.heap.size + 1, 0, none⟩ _ bo hboo)).1 k)
          have HT := Lib.hid (And.intro hf2 (And.intro hj2 (And.intro hnt2 hnn2)))
          clear hft hjt hkb hszt hnt hlt hob2 hgr hf2 hj2 hnt2 hboo hnn2 hcw
          cases is with
          | false =>
            have hend : fieldsB s = pre ++ tellB none := by rw [HH.out.2.2.1]; exact HF.out.stop hlast (HL.out.2.2.2 ▸ HL.out.2.2.1) (by rw [← HL.out.2.2.2]; exact HE.out.1)
            have HZ := Lib.hid hend
            clear hend
            gi_wp2
            refine bodyPost_ret (results_none rfl _ _ _) rfl ?_
            exact ⟨⟨_, rfl⟩, _, HZ.out.symm, HT.out.2.1⟩
          | true =>
            have hnx := HF.out.next hlast (HL.out.2.2.2 ▸ HL.out.2.2.1) (f := (n1, v1)) (by rw [← HL.out.2.2.2]; exact HE.out.1) (by rw [← HL.out.2.2.2]; exact HE.out.2.1) (by rw [← HL.out.2.2.2]; exact HE.out.2.2)
            obtain ⟨w5, hw5⟩ : ∃ w5, w5 = wt.setCell ⟨W.heap.size + 1, 0, none⟩ (.pointer none) := ⟨_, rfl⟩
            have hb5 : w5.heap[W.heap.size + 1]? = some (.cells #[.pointer none] 266 (0, 0)) := by rw [hw5]; exact HT.out.1.nowb
            obtain ⟨k5, f5⟩ := box_cell hb5
            have hf5 := HT.out.1
            have hj5 := HT.out.2.1
            have hn5 := HT.out.2.2
            rw [← hw5] at hf5 hj5 hn5
            have hgr := grown_set w5 (W.heap.size + 1) (.pointer (some ⟨wa.heap.size, 0, none⟩))
            have hboo : bo ≠ W.heap.size + 1 := fun e => hf5.o1 (.inl e.symm)
            have hwa1 : wa.heap.size ≠ W.heap.size + 1 := by have := HI.out.2.1.nowb.lt; have := HB.out.2.2.2.2.2; omega
            have hlt2 := HI.out.2.1.nowb.lt
            have hge2 := HB.out.2.2.2.2.2
            have hlvb : (Value.slice (some ⟨g, 0, none⟩) L.length c).ownBlock ≠ some wa.heap.size := fun e => by
              have h1 := HH.out.1.row.lt _ e
              have h2 := HI.out.2.1.size
              omega
            have hf6 := hf5.setNow HH.out.1 HH.out.2.1 (.pointer (some ⟨wa.heap.size, 0, none⟩)) (some (n1, v1)) ⟨wa.heap.size, box_set _ hb5, (Below.heap_setCell w5 ⟨W.heap.size + 1, 0, none⟩ _ _ hwa1).trans hn5.1, by omega, fun k => hn5.2 ((ownB_block (Below.heap_setCell w5 ⟨W.heap.size + 1, 0, none⟩ _ bo hboo)).1 k), hwa1, by omega, hlvb⟩
            have hj6 := HH.out.2.2.2.2 _ _ _ (some (W.heap.size + 1)) hj5 hgr (fun r e => by cases e; exact ⟨by omega, hf5.o1⟩)
            have HZ := Lib.hid (And.intro hnx (And.intro hf6 hj6))
            clear hnx hf5 hj5 hn5 hgr hboo hwa1 hlt2 hge2 hlvb hf6 hj6 hb5
            gi_upto_region 12 with (fail)
            rw [← hw5]
            clear hw5
            gi_wp2
            go_roundw
            case rel => exact ⟨i + 1, pre ++ tellB none, some (n1, v1), by simp, HZ.out.1, HZ.out.2.1, HZ.out.2.2⟩
            case measure => simp [natI]; omega
      | some pp =>
        obtain ⟨nm, v⟩ := pp
        obtain ⟨bf, hb1, hb2, hb3, hb4, hb5, hb6, hb7⟩ := HI.out.2.1.nowb
        obtain ⟨k1, g1⟩ := box_cell hb1
        by_cases hnil : ln = []
        · have hgo : goesOn (some (nm, v)) ln = false := by rw [hnil]; rfl
          have HL := Lib.hid (And.intro hll (And.intro hll (And.intro hgo hln)))
          have e1 : (ln == []) = true := by rw [hnil]; rfl
          have e2 : ln.isEmpty = true := by rw [hnil]; rfl
          clear hln hll hb1 hb2 hb3 hb4 hb5 hb6 hb7 hgo hnil
          -- begins, tell
          have hbg := begins_any ln wr HL.out.2.1 HI.out.2.1.glob
          clear hY0
          gi_wp2_with fail
          refine ⟨(fun h => by cases h), callsIn_wide.2 (hbg.mono ?_)⟩
          rintro e wa ⟨⟨n1, v1, is, rfl, hbe, hn1, hv1⟩, hba⟩
          clear hbg
          obtain ⟨wb, hwb⟩ : ∃ wb, wb = wa.alloc (.cells #[.string ⟨n1.toArray⟩, .string ⟨v1.toArray⟩] 220) := ⟨_, rfl⟩
          have hbb : Below wr.heap.size wr wb := by rw [hwb]; exact hba.alloc hba.size _
          have hfb := HI.out.2.1.below HH.out.1 hbb (lt_of_cells (HJo.out _ _ HI.out.2.2.1).1.choose_spec.1)
          have hjb := HH.out.2.2.2.2 _ _ _ none HI.out.2.2.1 (grownBy_of_below hbb none) (fun r e => by cases e)
          have hnb : wb.heap[wa.heap.size]? = some (.cells #[.string ⟨n1.toArray⟩, .string ⟨v1.toArray⟩] 220 (0, 0)) := by rw [hwb]; exact ha_eq rfl
          have hob : ∀ r, OwnB bo wb r ↔ OwnB bo wr r := fun r => ownB_block (hbb.block bo (lt_of_cells (HJo.out _ _ HI.out.2.2.1).1.choose_spec.1))
          have hna : ¬ OwnB bo wb wa.heap.size := fun k => by have h1 := (HJo.out _ _ HI.out.2.2.1).2 _ ((hob _).1 k); have h2 := hba.size; omega
          have hsa : wr.heap.size ≤ wa.heap.size := hba.size
          have hwbs : wa.heap.size < wb.heap.size := lt_of_cells hnb
          have HB := Lib.hid (And.intro hbb (And.intro hfb (And.intro hjb (And.intro hnb (And.intro hna hsa)))))
          have HE := Lib.hid (And.intro hbe (And.intro hn1 hv1))
          clear hba hbb hfb hjb hnb hob hna hsa hbe hn1 hv1
          gi_upto_region 10 with (fail)
          try rw [← hwb]
          clear hwb
          gi_wp2_with fail
          have hyl := hY pre (nm, trimB v)
          have hvl : v.length ≤ 1000000 := by have := (HF.out.fits _ rfl).2; dsimp only at this; omega
          have hfy : FldY s pre (nm, trimB v) := ⟨by have h1 := HF.out.many; have h2 := HH.out.2.2.2.1; omega, (HF.out.fits _ rfl).1, Nat.le_trans (trimB_le v) hvl⟩
          obtain ⟨cb, hcb1, hcb2⟩ : ∃ cb, wb.heap[W.heap.size + 1]? = some (.cells #[.pointer (some ⟨cb, 0, none⟩)] 266 (0, 0)) ∧ wb.heap[cb]? = some (.cells #[.string ⟨nm.toArray⟩, .string ⟨v.toArray⟩] 220 (0, 0)) := by
            obtain ⟨cb, h1, h2, -⟩ := HB.out.2.1.nowb
            exact ⟨cb, h1, h2⟩
          refine ⟨(fun h => by cases h), (tell_some (n - 1) l (W.heap.size + 1) W.heap.size cb nm v wb (fun wt => J (pre ++ [(nm, trimB v)]) wt ∧ ∃ wz, Below wb.heap.size wb wz ∧ KeepsF bo wz wt) (by omega) (by simp [World.cell?, hcb1]) (by simp [World.cell?, HB.out.2.1.yb.trans HH.out.1.yb]) (by simp [World.cell?, hcb2]) (by simp [World.cell?, hcb2]) (fun wz hbz => ?_)).mono ?_⟩
          · have hjz := HH.out.2.2.2.2 _ _ _ none HB.out.2.2.1 (grownBy_of_below hbz none) (fun r e => by cases e)
            obtain ⟨fn, tm, asg, bd, h1, h2⟩ := yieldAt_wide (m' := n - 1 - 1) (hyl wz hjz hfy)
            exact ⟨fn, tm, asg, bd, h1, h2.mono fun e w' hh => ⟨hh.1, hh.2.1, wz, hbz, hh.2.2⟩⟩
          rintro e wt ⟨rfl, hjt, wz, hbz, hkz⟩
          replace hjt : J (pre ++ tellB (some (nm, v))) wt := hjt
          have hft := (HB.out.2.1.below HH.out.1 hbz (lt_of_cells (HJo.out _ _ HB.out.2.2.1).1.choose_spec.1)).keeps HH.out.1 hkz
          have hkb : ∀ b o, b < wb.heap.size → ¬ OwnB bo wb b → wb.heap[b]? = some o → o.isCells = true → wt.heap[b]? = some o ∧ ¬ OwnB bo wt b := fun b o hb hn ho hc => hkz.2 b o ((hbz.block b hb).trans ho) hc (fun k => hn ((ownB_block (hbz.block bo (lt_of_cells (HJo.out _ _ HB.out.2.2.1).1.choose_spec.1))).1 k))
          have hszt : wb.heap.size ≤ wt.heap.size := Nat.le_trans hbz.size hkz.1
          clear hbz hkz hyl hfy hcb1 hcb2 hvl
          have hnt := hkb wa.heap.size _ hwbs HB.out.2.2.2.2.1 HB.out.2.2.2.1 rfl
          have hlt : W.heap.size + 1 < wt.heap.size := hft.nowb.lt
          have hob2 : 1 < W.heap.size := HH.out.2.1
          obtain ⟨cw, hcw⟩ : ∃ cw, wt.heap[W.heap.size + 1]? = some (.cells #[cw] 266 (0, 0)) := by
            have := hft.nowb
            obtain ⟨bf, h1, -⟩ := this; exact ⟨_, h1⟩
          obtain ⟨k0, f0⟩ := box_cell hcw
          have hgr := fun u => grown_set wt (W.heap.size + 1) u
          have hf2 := hft.setNow HH.out.1 HH.out.2.1 (.pointer none) none (box_set _ hcw)
          have hj2 := HH.out.2.2.2.2 _ _ _ (some (W.heap.size + 1)) hjt (hgr (.pointer none)) (fun r e => by cases e; exact ⟨by omega, hft.o1⟩)
          have hnt2 : (wt.setCell ⟨W.heap.size + 1, 0, none⟩ (.pointer none)).heap[wa.heap.size]? = some (.cells #[.string ⟨n1.toArray⟩, .string ⟨v1.toArray⟩] 220 (0, 0)) := (Below.heap_setCell wt ⟨W.heap.size + 1, 0, none⟩ _ _ (by have := HI.out.2.1.nowb.lt; have := HB.out.2.2.2.2.2; show wa.heap.size ≠ W.heap.size + 1; omega)).trans hnt.1
          have hboo : bo ≠ W.heap.size + 1 := fun e => hft.o1 (.inl e.symm)
          have hnn2 : ¬ OwnB bo (wt.setCell ⟨W.heap.size + 1, 0, none⟩ (.pointer none)) wa.heap.size := fun k => hnt.2 ((ownB_block (Below.heap_setCell wt ⟨W.heap.size + 1, 0, none⟩ _ bo hboo)).1 k)
          have HT := Lib.hid (And.intro hf2 (And.intro hj2 (And.intro hnt2 hnn2)))
          clear hft hjt hkb hszt hnt hlt hob2 hgr hf2 hj2 hnt2 hboo hnn2 hcw
          cases is with
          | false =>
            have hend : fieldsB s = pre ++ tellB (some (nm, v)) := by rw [HH.out.2.2.1]; exact HF.out.stop hlast (HL.out.2.2.2 ▸ HL.out.2.2.1) (by rw [← HL.out.2.2.2]; exact HE.out.1)
            have HZ := Lib.hid hend
            clear hend
            gi_wp2
            refine bodyPost_ret (results_none rfl _ _ _) rfl ?_
            exact ⟨⟨_, rfl⟩, _, HZ.out.symm, HT.out.2.1⟩
          | true =>
            have hnx := HF.out.next hlast (HL.out.2.2.2 ▸ HL.out.2.2.1) (f := (n1, v1)) (by rw [← HL.out.2.2.2]; exact HE.out.1) (by rw [← HL.out.2.2.2]; exact HE.out.2.1) (by rw [← HL.out.2.2.2]; exact HE.out.2.2)
            obtain ⟨w5, hw5⟩ : ∃ w5, w5 = wt.setCell ⟨W.heap.size + 1, 0, none⟩ (.pointer none) := ⟨_, rfl⟩
            have hb5 : w5.heap[W.heap.size + 1]? = some (.cells #[.pointer none] 266 (0, 0)) := by rw [hw5]; exact HT.out.1.nowb
            obtain ⟨k5, f5⟩ := box_cell hb5
            have hf5 := HT.out.1
            have hj5 := HT.out.2.1
            have hn5 := HT.out.2.2
            rw [← hw5] at hf5 hj5 hn5
            have hgr := grown_set w5 (W.heap.size + 1) (.pointer (some ⟨wa.heap.size, 0, none⟩))
            have hboo : bo ≠ W.heap.size + 1 := fun e => hf5.o1 (.inl e.symm)
            have hwa1 : wa.heap.size ≠ W.heap.size + 1 := by have := HI.out.2.1.nowb.lt; have := HB.out.2.2.2.2.2; omega
            have hlt2 := HI.out.2.1.nowb.lt
            have hge2 := HB.out.2.2.2.2.2
            have hlvb : (Value.slice (some ⟨g, 0, none⟩) L.length c).ownBlock ≠ some wa.heap.size := fun e => by
              have h1 := HH.out.1.row.lt _ e
              have h2 := HI.out.2.1.size
              omega
            have hf6 := hf5.setNow HH.out.1 HH.out.2.1 (.pointer (some ⟨wa.heap.size, 0, none⟩)) (some (n1, v1)) ⟨wa.heap.size, box_set _ hb5, (Below.heap_setCell w5 ⟨W.heap.size + 1, 0, none⟩ _ _ hwa1).trans hn5.1, by omega, fun k => hn5.2 ((ownB_block (Below.heap_setCell w5 ⟨W.heap.size + 1, 0, none⟩ _ bo hboo)).1 k), hwa1, by omega, hlvb⟩
            have hj6 := HH.out.2.2.2.2 _ _ _ (some (W.heap.size + 1)) hj5 hgr (fun r e => by cases e; exact ⟨by omega, hf5.o1⟩)
            have HZ := Lib.hid (And.intro hnx (And.intro hf6 hj6))
            clear hnx hf5 hj5 hn5 hgr hboo hwa1 hlt2 hge2 hlvb hf6 hj6 hb5
            gi_upto_region 12 with (fail)
            rw [← hw5]
            clear hw5
            gi_wp2
            go_roundw
            case rel => exact ⟨i + 1, pre ++ tellB (some (nm, v)), some (n1, v1), by simp, HZ.out.1, HZ.out.2.1, HZ.out.2.2⟩
            case measure => simp [natI]; omega
        · obtain ⟨ch, r, hcr⟩ : ∃ ch r, ln = ch :: r := by
            cases ln with
            | nil => exact absurd rfl hnil
            | cons ch r => exact ⟨ch, r, rfl⟩
          have e1 : (ln == []) = false := by simpa using hnil
          have e2 : ln.isEmpty = false := by simpa using hnil
          have e3 : (⟨ln.toArray⟩ : ByteArray).extract 0 1 = ⟨#[ch]⟩ := by rw [extract_take, hcr]; rfl
          have e4 : 1 ≤ ln.length := by rw [hcr]; simp
          have hct := Tryz.strings_Contains ⟨#[32, 9]⟩ ⟨#[ch]⟩ m wr (by decide) hm
          have hcb := contains_blank ch
          have hgo : goesOn (some (nm, v)) ln = blankB ch := by rw [hcr]; rfl
          have q1 : (⟨#[32, 9]⟩ : ByteArray).data.toList = [32, 9] := rfl
          have q2 : (⟨#[ch]⟩ : ByteArray).data.toList = [ch] := rfl
          rw [q1, q2, hcb] at hct
          clear q1 q2 hcb hcr hnil
          cases hbl : blankB ch with
          | false =>
            rw [hbl] at hct hgo
            have HL := Lib.hid (And.intro hll (And.intro hll (And.intro hgo hln)))
            clear hln hll hb1 hb2 hb3 hb4 hb5 hb6 hb7 hgo hbl
            gi_wp2_with fail
            refine ⟨(fun h => by cases h), callsIn_wide.2 (hct.mono ?_)⟩
            rintro e wr ⟨rfl, rfl⟩
            clear hct e1 e2 e3 e4
            -- begins, tell
            have hbg := begins_any ln wr HL.out.2.1 HI.out.2.1.glob
            clear hY0
            gi_wp2_with fail
            refine ⟨(fun h => by cases h), callsIn_wide.2 (hbg.mono ?_)⟩
            rintro e wa ⟨⟨n1, v1, is, rfl, hbe, hn1, hv1⟩, hba⟩
            clear hbg
            obtain ⟨wb, hwb⟩ : ∃ wb, wb = wa.alloc (.cells #[.string ⟨n1.toArray⟩, .string ⟨v1.toArray⟩] 220) := ⟨_, rfl⟩
            have hbb : Below wr.heap.size wr wb := by rw [hwb]; exact hba.alloc hba.size _
            have hfb := HI.out.2.1.below HH.out.1 hbb (lt_of_cells (HJo.out _ _ HI.out.2.2.1).1.choose_spec.1)
            have hjb := HH.out.2.2.2.2 _ _ _ none HI.out.2.2.1 (grownBy_of_below hbb none) (fun r e => by cases e)
            have hnb : wb.heap[wa.heap.size]? = some (.cells #[.string ⟨n1.toArray⟩, .string ⟨v1.toArray⟩] 220 (0, 0)) := by rw [hwb]; exact ha_eq rfl
            have hob : ∀ r, OwnB bo wb r ↔ OwnB bo wr r := fun r => ownB_block (hbb.block bo (lt_of_cells (HJo.out _ _ HI.out.2.2.1).1.choose_spec.1))
            have hna : ¬ OwnB bo wb wa.heap.size := fun k => by have h1 := (HJo.out _ _ HI.out.2.2.1).2 _ ((hob _).1 k); have h2 := hba.size; omega
            have hsa : wr.heap.size ≤ wa.heap.size := hba.size
            have hwbs : wa.heap.size < wb.heap.size := lt_of_cells hnb
            have HB := Lib.hid (And.intro hbb (And.intro hfb (And.intro hjb (And.intro hnb (And.intro hna hsa)))))
            have HE := Lib.hid (And.intro hbe (And.intro hn1 hv1))
            clear hba hbb hfb hjb hnb hob hna hsa hbe hn1 hv1
            gi_upto_region 10 with (fail)
            try rw [← hwb]
            clear hwb
            gi_wp2_with fail
            have hyl := hY pre (nm, trimB v)
            have hvl : v.length ≤ 1000000 := by have := (HF.out.fits _ rfl).2; dsimp only at this; omega
            have hfy : FldY s pre (nm, trimB v) := ⟨by have h1 := HF.out.many; have h2 := HH.out.2.2.2.1; omega, (HF.out.fits _ rfl).1, Nat.le_trans (trimB_le v) hvl⟩
            obtain ⟨cb, hcb1, hcb2⟩ : ∃ cb, wb.heap[W.heap.size + 1]? = some (.cells #[.pointer (some ⟨cb, 0, none⟩)] 266 (0, 0)) ∧ wb.heap[cb]? = some (.cells #[.string ⟨nm.toArray⟩, .string ⟨v.toArray⟩] 220 (0, 0)) := by
              obtain ⟨cb, h1, h2, -⟩ := HB.out.2.1.nowb
              exact ⟨cb, h1, h2⟩
            refine ⟨(fun h => by cases h), (tell_some (n - 1) l (W.heap.size + 1) W.heap.size cb nm v wb (fun wt => J (pre ++ [(nm, trimB v)]) wt ∧ ∃ wz, Below wb.heap.size wb wz ∧ KeepsF bo wz wt) (by omega) (by simp [World.cell?, hcb1]) (by simp [World.cell?, HB.out.2.1.yb.trans HH.out.1.yb]) (by simp [World.cell?, hcb2]) (by simp [World.cell?, hcb2]) (fun wz hbz => ?_)).mono ?_⟩
            · have hjz := HH.out.2.2.2.2 _ _ _ none HB.out.2.2.1 (grownBy_of_below hbz none) (fun r e => by cases e)
              obtain ⟨fn, tm, asg, bd, h1, h2⟩ := yieldAt_wide (m' := n - 1 - 1) (hyl wz hjz hfy)
              exact ⟨fn, tm, asg, bd, h1, h2.mono fun e w' hh => ⟨hh.1, hh.2.1, wz, hbz, hh.2.2⟩⟩
            rintro e wt ⟨rfl, hjt, wz, hbz, hkz⟩
            replace hjt : J (pre ++ tellB (some (nm, v))) wt := hjt
            have hft := (HB.out.2.1.below HH.out.1 hbz (lt_of_cells (HJo.out _ _ HB.out.2.2.1).1.choose_spec.1)).keeps HH.out.1 hkz
            have hkb : ∀ b o, b < wb.heap.size → ¬ OwnB bo wb b → wb.heap[b]? = some o → o.isCells = true → wt.heap[b]? = some o ∧ ¬ OwnB bo wt b := fun b o hb hn ho hc => hkz.2 b o ((hbz.block b hb).trans ho) hc (fun k => hn ((ownB_block (hbz.block bo (lt_of_cells (HJo.out _ _ HB.out.2.2.1).1.choose_spec.1))).1 k))
            have hszt : wb.heap.size ≤ wt.heap.size := Nat.le_trans hbz.size hkz.1
            clear hbz hkz hyl hfy hcb1 hcb2 hvl
            have hnt := hkb wa.heap.size _ hwbs HB.out.2.2.2.2.1 HB.out.2.2.2.1 rfl
            have hlt : W.heap.size + 1 < wt.heap.size := hft.nowb.lt
            have hob2 : 1 < W.heap.size := HH.out.2.1
            obtain ⟨cw, hcw⟩ : ∃ cw, wt.heap[W.heap.size + 1]? = some (.cells #[cw] 266 (0, 0)) := by
              have := hft.nowb
              obtain ⟨bf, h1, -⟩ := this; exact ⟨_, h1⟩
            obtain ⟨k0, f0⟩ := box_cell hcw
            have hgr := fun u => grown_set wt (W.heap.size + 1) u
            have hf2 := hft.setNow HH.out.1 HH.out.2.1 (.pointer none) none (box_set _ hcw)
            have hj2 := HH.out.2.2.2.2 _ _ _ (some (W.heap.size + 1)) hjt (hgr (.pointer none)) (fun r e => by cases e; exact ⟨by omega, hft.o1⟩)
            have hnt2 : (wt.setCell ⟨W.heap.size + 1, 0, none⟩ (.pointer none)).heap[wa.heap.size]? = some (.cells #[.string ⟨n1.toArray⟩, .string ⟨v1.toArray⟩] 220 (0, 0)) := (Below.heap_setCell wt ⟨W.heap.size + 1, 0, none⟩ _ _ (by have := HI.out.2.1.nowb.lt; have := HB.out.2.2.2.2.2; show wa.heap.size ≠ W.heap.size + 1; omega)).trans hnt.1
            have hboo : bo ≠ W.heap.size + 1 := fun e => hft.o1 (.inl e.symm)
            have hnn2 : ¬ OwnB bo (wt.setCell ⟨W.heap.size + 1, 0, none⟩ (.pointer none)) wa.heap.size := fun k => hnt.2 ((ownB_block (Below.heap_setCell wt ⟨W.heap.size + 1, 0, none⟩ _ bo hboo)).1 k)
            have HT := Lib.hid (And.intro hf2 (And.intro hj2 (And.intro hnt2 hnn2)))
            clear hft hjt hkb hszt hnt hlt hob2 hgr hf2 hj2 hnt2 hboo hnn2 hcw
            cases is with
            | false =>
              have hend : fieldsB s = pre ++ tellB (some (nm, v)) := by rw [HH.out.2.2.1]; exact HF.out.stop hlast (HL.out.2.2.2 ▸ HL.out.2.2.1) (by rw [← HL.out.2.2.2]; exact HE.out.1)
              have HZ := Lib.hid hend
              clear hend
              gi_wp2
              refine bodyPost_ret (results_none rfl _ _ _) rfl ?_
              exact ⟨⟨_, rfl⟩, _, HZ.out.symm, HT.out.2.1⟩
            | true =>
              have hnx := HF.out.next hlast (HL.out.2.2.2 ▸ HL.out.2.2.1) (f := (n1, v1)) (by rw [← HL.out.2.2.2]; exact HE.out.1) (by rw [← HL.out.2.2.2]; exact HE.out.2.1) (by rw [← HL.out.2.2.2]; exact HE.out.2.2)
              obtain ⟨w5, hw5⟩ : ∃ w5, w5 = wt.setCell ⟨W.heap.size + 1, 0, none⟩ (.pointer none) := ⟨_, rfl⟩
              have hb5 : w5.heap[W.heap.size + 1]? = some (.cells #[.pointer none] 266 (0, 0)) := by rw [hw5]; exact HT.out.1.nowb
              obtain ⟨k5, f5⟩ := box_cell hb5
              have hf5 := HT.out.1
              have hj5 := HT.out.2.1
              have hn5 := HT.out.2.2
              rw [← hw5] at hf5 hj5 hn5
              have hgr := grown_set w5 (W.heap.size + 1) (.pointer (some ⟨wa.heap.size, 0, none⟩))
              have hboo : bo ≠ W.heap.size + 1 := fun e => hf5.o1 (.inl e.symm)
              have hwa1 : wa.heap.size ≠ W.heap.size + 1 := by have := HI.out.2.1.nowb.lt; have := HB.out.2.2.2.2.2; omega
              have hlt2 := HI.out.2.1.nowb.lt
              have hge2 := HB.out.2.2.2.2.2
              have hlvb : (Value.slice (some ⟨g, 0, none⟩) L.length c).ownBlock ≠ some wa.heap.size := fun e => by
                have h1 := HH.out.1.row.lt _ e
                have h2 := HI.out.2.1.size
                omega
              have hf6 := hf5.setNow HH.out.1 HH.out.2.1 (.pointer (some ⟨wa.heap.size, 0, none⟩)) (some (n1, v1)) ⟨wa.heap.size, box_set _ hb5, (Below.heap_setCell w5 ⟨W.heap.size + 1, 0, none⟩ _ _ hwa1).trans hn5.1, by omega, fun k => hn5.2 ((ownB_block (Below.heap_setCell w5 ⟨W.heap.size + 1, 0, none⟩ _ bo hboo)).1 k), hwa1, by omega, hlvb⟩
              have hj6 := HH.out.2.2.2.2 _ _ _ (some (W.heap.size + 1)) hj5 hgr (fun r e => by cases e; exact ⟨by omega, hf5.o1⟩)
              have HZ := Lib.hid (And.intro hnx (And.intro hf6 hj6))
              clear hnx hf5 hj5 hn5 hgr hboo hwa1 hlt2 hge2 hlvb hf6 hj6 hb5
              gi_upto_region 12 with (fail)
              rw [← hw5]
              clear hw5
              gi_wp2
              go_roundw
              case rel => exact ⟨i + 1, pre ++ tellB (some (nm, v)), some (n1, v1), by simp, HZ.out.1, HZ.out.2.1, HZ.out.2.2⟩
              case measure => simp [natI]; omega

          | true =>
            rw [hbl] at hct hgo
            have hfo := HF.out.on hlast (by rw [← hln]; exact hgo)
            have hfs := HI.out.2.1.setField HH.out.2.1 bf (v ++ ln) hb1 hb2 hb3 hb4 hb5 hb6 hb7
            have hcat : (⟨v.toArray⟩ : ByteArray) ++ ⟨ln.toArray⟩ = ⟨(v ++ ln).toArray⟩ := by
              apply ByteArray.ext
              simp [ByteArray.data_append]
            have hgr : wr.grownBy (wr.setCell ⟨bf, 1, none⟩ (.string ⟨(v ++ ln).toArray⟩)) (some bf) := ⟨rfl, rfl, rfl, by simp [World.setCell], fun k _ hk => Below.heap_setCell _ _ _ k (fun e => hk (by rw [e]))⟩
            have hjs := HH.out.2.2.2.2 _ _ _ (some bf) HI.out.2.2.1 hgr (fun r e => by cases e; exact ⟨hb3, hb4⟩)
            have k2 : wr.cell? ⟨bf, 1, none⟩ = some (.string ⟨v.toArray⟩) := by simp [World.cell?, hb2]
            have g2 : wr.frozen? ⟨bf, 1, none⟩ = false := by simp [World.frozen?, hb2]
            rw [← hln] at hfo
            have HZ := Lib.hid (And.intro hfo (And.intro hfs hjs))
            clear hln hb1 hb2 hb3 hb4 hb5 hb6 hb7 hgo hbl hfo hfs hjs hgr
            have hvl : v.length ≤ 1000000 := by have := (HF.out.fits _ rfl).2; dsimp only at this; omega
            gi_wp2_with fail
            refine ⟨(fun h => by cases h), callsIn_wide.2 (hct.mono ?_)⟩
            rintro e wr ⟨rfl, rfl⟩
            clear hct e1 e2 e3 e4
            gi_wp2
            go_roundw
            case rel => exact ⟨i + 1, pre, some (nm, v ++ ln), by simp, HZ.out.1, HZ.out.2.1, HZ.out.2.2⟩
            case measure => simp [natI]; omega
    · have hli : ¬ (i : Int) < (L.length : Int) := by omega
      have hend := HF.out.done hlast
      rw [← HH.out.2.2.1] at hend
      have HZ := Lib.hid hend
      clear hend
      cases now with
      | none =>
        gi_wp2_with fail
        refine ⟨(fun h => by cases h), (tell_nil (n - 1) (W.heap.size + 1) W.heap.size wr (by exact HI.out.2.1.nowb)).mono ?_⟩
        rintro e wt ⟨rfl, hbt⟩
        have hjt : J (pre ++ tellB none) wt := by
          rw [show pre ++ tellB none = pre by simp [tellB]]
          exact HH.out.2.2.2.2 _ _ _ none HI.out.2.2.1 (grownBy_of_below hbt none) (fun r e => by cases e)
        have HJt := Lib.hid hjt
        clear hjt hbt
        gi_wp2
        refine bodyPost_end (results_none rfl _ _ _) rfl ?_
        exact ⟨⟨_, rfl⟩, _, HZ.out.symm, HJt.out⟩
      | some pp =>
        obtain ⟨nm, v⟩ := pp
        have hyl := hY pre (nm, trimB v)
        have hvl : v.length ≤ 1000000 := by have := (HF.out.fits _ rfl).2; dsimp only at this; omega
        have hfy : FldY s pre (nm, trimB v) := ⟨by have h1 := HF.out.many; have h2 := HH.out.2.2.2.1; have h3 := HF.out.le; omega, (HF.out.fits _ rfl).1, Nat.le_trans (trimB_le v) hvl⟩
        obtain ⟨cb, hcb1, hcb2⟩ : ∃ cb, wr.heap[W.heap.size + 1]? = some (.cells #[.pointer (some ⟨cb, 0, none⟩)] 266 (0, 0)) ∧ wr.heap[cb]? = some (.cells #[.string ⟨nm.toArray⟩, .string ⟨v.toArray⟩] 220 (0, 0)) := by
          obtain ⟨cb, h1, h2, -⟩ := HI.out.2.1.nowb
          exact ⟨cb, h1, h2⟩
        have HY := Lib.hid (And.intro hyl (And.intro hfy (And.intro hcb1 (And.intro hcb2 hvl))))
        clear hyl hfy hcb1 hcb2 hvl
        gi_wp2_with fail
        refine ⟨(fun h => by cases h), (tell_some (n - 1) l (W.heap.size + 1) W.heap.size cb nm v wr (fun wt => J (pre ++ [(nm, trimB v)]) wt) (by have := HY.out.2.2.2.2; omega) (by simp [World.cell?, HY.out.2.2.1]) (by simp [World.cell?, HI.out.2.1.yb.trans HH.out.1.yb]) (by simp [World.cell?, HY.out.2.2.2.1]) (by simp [World.cell?, HY.out.2.2.2.1]) (fun wz hbz => ?_)).mono ?_⟩
        · have hjz := HH.out.2.2.2.2 _ _ _ none HI.out.2.2.1 (grownBy_of_below hbz none) (fun r e => by cases e)
          obtain ⟨fn, tm, asg, bd, h1, h2⟩ := yieldAt_wide (m' := n - 1 - 1) (HY.out.1 wz hjz HY.out.2.1)
          exact ⟨fn, tm, asg, bd, h1, h2.mono fun e w' hh => ⟨hh.1, hh.2.1⟩⟩
        rintro e wt ⟨rfl, hjt⟩
        have HJt := Lib.hid hjt
        clear hjt
        gi_wp2
        refine bodyPost_end (results_none rfl _ _ _) rfl ?_
        exact ⟨⟨_, rfl⟩, _, HZ.out.symm, HJt.out⟩
end Go.Proofs.YtlpngibdplnieaaGreatDoor
