/- entry.May. -/
import Derived.Test.YtlpngibdplnieaaGreatDoorEget
import Derived.Test.YtlpngibdplnieaaGreatDoorMe

namespace Go.Proofs.YtlpngibdplnieaaGreatDoor
open Go Go.RowKit Go.Shelf Go.Sort
attribute [local go_sem] bneI

/-! ### Jobs held against domains -/
def jobOk (j : JoP) (d : Bytes) : Bool := decide (j.dom = d) && (decide (0 ≤ j.tries) && (decide (j.tries ≤ 99) && clockB j.due))
def jobsOk : List JoP → List Bytes → Bool
  | [], [] => true
  | j :: l, d :: ds => jobOk j d && jobsOk l ds
  | _, _ => false
theorem jobsOk_iff : ∀ (js : List JoP) (ds : List Bytes), jobsOk js ds = true ↔ js.length = ds.length ∧ ∀ i (h1 : i < js.length) (h2 : i < ds.length), jobOk js[i] ds[i] = true
  | [], [] => by simp [jobsOk]
  | [], _ :: _ => by simp [jobsOk]
  | _ :: _, [] => by simp [jobsOk]
  | j :: js, d :: ds => by
    unfold jobsOk
    rw [Bool.and_eq_true, jobsOk_iff js ds]
    constructor
    · rintro ⟨h1, h2, h3⟩
      refine ⟨by simp [h2], fun i k1 k2 => ?_⟩
      cases i with
      | zero => exact h1
      | succ i => exact h3 i (by simpa using k1) (by simpa using k2)
    · rintro ⟨h1, h2⟩
      exact ⟨h2 0 (by simp) (by simp), by simpa using h1, fun i k1 k2 => h2 (i + 1) (by simpa using k1) (by simpa using k2)⟩
theorem enterMayJ : ∀ args w, (callFunc 59 args).run Tryz.prog w = .ok (.enter 59 args) w := enters_of Tryz.func59 (by kernel_rfl) rfl
theorem jbox {W : World} {b : Nat} {v0 v1 v2 : Value} {t : TypeId} (h : W.heap[b]? = some (.cells #[v0, v1, v2] t (0, 0))) : W.cell? ⟨b, 0, none⟩ = some v0 ∧ W.cell? ⟨b, 1, none⟩ = some v1 ∧ W.cell? ⟨b, 2, none⟩ = some v2 := by
  refine ⟨?_, ?_, ?_⟩ <;> simp [World.cell?, h]

set_option maxRecDepth 100000 in
set_option maxHeartbeats 1000000 in
theorem mayJ_any (j : JoP) (d : Bytes) (w : World) : Calls Tryz.prog 59 #[.agg (joE j).toArray, .string ⟨d.toArray⟩] w fun e w' => e = .returned (.bool (jobOk j d)) ∧ Below w.heap.size w w' := by
  obtain ⟨dm, tr, du⟩ := j
  unfold joE
  dsimp only
  obtain ⟨W1, hW1⟩ : ∃ W1, W1 = (w.alloc (.cells #[.string ⟨dm.toArray⟩, .int .i64 tr, .int .i64 du] 71)) := ⟨_, rfl⟩
  have hB1 : Below w.heap.size w W1 := by rw [hW1]; exact (Below.refl _ w).alloc (Nat.le_refl _) _
  have hb1 : W1.heap[w.heap.size]? = some (.cells #[.string ⟨dm.toArray⟩, .int .i64 tr, .int .i64 du] 71 (0, 0)) := by rw [hW1]; exact ha_eq rfl
  obtain ⟨x0, x1, x2⟩ := jbox hb1
  have hc := clock_any du W1
  have hj : jobOk ⟨dm, tr, du⟩ d = (decide (dm = d) && (decide (0 ≤ tr) && (decide (tr ≤ 99) && clockB du))) := rfl
  have HB := Lib.hid (And.intro hB1 hj)
  clear hB1 hb1 hj
  by_cases h1 : dm = d
  · subst h1
    by_cases h2 : (0 : Int) ≤ tr
    · by_cases h3 : tr ≤ 99
      · generalize hr : clockB du = r at *
        have HR := Lib.hid hr
        clear hr
        go_enter Tryz.func59, Tryz.ntmps59
        go_upto_region 1 with (fail)
        rw [← hW1]
        clear hW1
        go_wp2_with fail
        refine hc.mono ?_
        rintro e w2 ⟨rfl, hb2⟩
        have HB2 := Lib.hid (HB.out.1.trans (hb2.mono HB.out.1.size))
        clear hc hb2 x0 x1 x2
        go_wp2
        refine bodyPost_ret (v := .bool r) (by simp [results, Tryz.results59, go_sem]) rfl ⟨by rw [HB.out.2, decide_eq_true h2, decide_eq_true h3]; simp, HB2.out⟩
      · have h4 : (99 : Int) < tr := by omega
        clear hc
        go_enter Tryz.func59, Tryz.ntmps59
        go_upto_region 1 with (fail)
        rw [← hW1]
        clear hW1
        go_wp2
        refine bodyPost_ret (v := .bool false) (by simp [results, Tryz.results59, go_sem]) rfl ⟨by rw [HB.out.2, decide_eq_false (show ¬ tr ≤ 99 by omega)]; simp, HB.out.1⟩
    · clear hc
      go_enter Tryz.func59, Tryz.ntmps59
      go_upto_region 1 with (fail)
      rw [← hW1]
      clear hW1
      go_wp2
      refine bodyPost_ret (v := .bool false) (by simp [results, Tryz.results59, go_sem]) rfl ⟨by rw [HB.out.2, decide_eq_false (show ¬ 0 ≤ tr by omega)]; simp, HB.out.1⟩
  · clear hc
    have h1b : (dm == d) = false := by simpa using h1
    have HN := Lib.hid h1
    clear h1
    go_enter Tryz.func59, Tryz.ntmps59
    go_upto_region 1 with (fail)
    rw [← hW1]
    clear hW1
    go_wp2
    refine bodyPost_ret (v := .bool false) (by simp [results, Tryz.results59, go_sem]) rfl ⟨by rw [HB.out.2, decide_eq_false HN.out]; simp, HB.out.1⟩

/-! ### Rows of texts -/
def stE (s : Bytes) : List Value := [.string ⟨s.toArray⟩]
theorem own_rowK1 {w : World} {base : Nat} {v : Value} {l : List Bytes} (h : w.ownsRow base 9 1 v l.length (l.map str)) : RowK 1 stE w v l := by
  rcases h.2 with ⟨rfl, h0⟩ | ⟨g, cap, cur, rfl, _, _, hnc, _⟩
  · have : l = [] := List.eq_nil_of_length_eq_zero h0
    subst this
    exact RowK.nil
  · refine ⟨some ⟨g, 0, none⟩, cap, rfl, hnc, fun _ => ⟨g, 0, rfl, fun i hi j u hu => ?_⟩⟩
    have hj : j = 0 := by
      have := (List.getElem?_eq_some_iff.1 hu).1
      simp [stE] at this
      omega
    subst hj
    have hc := h.cellAt i (by omega)
    simp only [Nat.zero_add, Nat.mul_one, Nat.add_zero]
    rw [hc, List.getElem?_map, List.getElem?_eq_getElem hi]
    exact hu
set_option maxRecDepth 100000 in
set_option maxHeartbeats 2000000 in
theorem equalJobs_any (js : List JoP) (ds : List Bytes) (jv dv : Value) (w : World) (hj : RowK 3 joE w jv js) (hd : RowK 1 stE w dv ds) (hn : js.length ≤ 1000000) :
    Calls Tryz.prog 57 #[jv, dv, .func (.func 59) #[] #[]] w fun e w' => e = .returned (.bool (jobsOk js ds)) ∧ Below w.heap.size w w' := by
  obtain ⟨p, c, rfl, -⟩ := hj.sh
  obtain ⟨q, d, rfl, -⟩ := hd.sh
  have hiff := jobsOk_iff js ds
  have HF := Lib.hid (And.intro hj (And.intro hd hiff))
  clear hj hd hiff
  by_cases hl : js.length = ds.length
  · have hl1 : ((js.length : Int) == (ds.length : Int)) = true := by rw [hl]; simp
    have hl2 : decide ((js.length : Int) = (ds.length : Int)) = true := by rw [hl]; simp
    have HL := Lib.hid hl
    clear hl
    go_enter Tryz.func57, Tryz.ntmps57
    go_wp2_with fail
    clear hl1 hl2
    go_loopw [17] (fun iv wr => ∃ i : Nat, iv = .int .i64 (i : Int) ∧ i ≤ js.length ∧ (∀ (j : Nat) (h1 : j < js.length) (h2 : j < ds.length), j < i → jobOk js[j] ds[j] = true) ∧ Below w.heap.size w wr) (fun iv _ => js.length - natI iv)
    case atStart => exact ⟨0, rfl, Nat.zero_le _, fun j _ _ h => absurd h (Nat.not_lt_zero _), Below.refl _ _⟩
    case round =>
      obtain ⟨i, rfl, hi, hall, hB⟩ := hrel
      by_cases hlast : i < js.length
      · have hli : (i : Int) < (js.length : Int) := by omega
        have hid : i < ds.length := by rw [← HL.out]; exact hlast
        have hli2 : (i : Int) < (ds.length : Int) := by omega
        obtain ⟨b, o, rfl, hc⟩ := (HF.out.1.below hB).at i hlast
        obtain ⟨b2, o2, rfl, hc2⟩ := (HF.out.2.1.below hB).at i hid
        have hc' := hc i hlast
        have hc2' := hc2 i hid
        have y0 : wr.cell? ⟨b, o + i * 3, none⟩ = some (.string ⟨js[i].dom.toArray⟩) := hc' 0 _ rfl
        have y1 : wr.cell? ⟨b, o + i * 3 + 1, none⟩ = some (.int .i64 js[i].tries) := hc' 1 _ rfl
        have y2 : wr.cell? ⟨b, o + i * 3 + 2, none⟩ = some (.int .i64 js[i].due) := hc' 2 _ rfl
        have z0 : wr.cell? ⟨b2, o2 + i, none⟩ = some (.string ⟨ds[i].toArray⟩) := by have := hc2' 0 _ rfl; simpa using this
        have HR := Lib.hid (And.intro hall (And.intro hB hid))
        clear hc hc' hc2 hc2' hall hB
        obtain ⟨x, hx⟩ : ∃ x, x = js[i] := ⟨_, rfl⟩
        obtain ⟨y, hy⟩ : ∃ y, y = ds[i] := ⟨_, rfl⟩
        rw [← hx] at y0 y1 y2
        rw [← hy] at z0
        have hfx : ∀ r : Bool, jobOk x y = r → jobOk js[i] ds[i] = r := fun r h => by rw [← hx, ← hy]; exact h
        have HX := Lib.hid hfx
        clear hx hy hfx
        have hcl := fun W => mayJ_any x y W
        obtain ⟨t1, t2, t3⟩ := x
        unfold joE at hcl
        dsimp only at y0 y1 y2 hcl
        go_upto_region 6 with (fail)
        generalize hw3 : World.alloc _ _ = w3
        have hb3 : Below wr.heap.size wr w3 := by rw [← hw3]; exact (Below.refl _ _).alloc (Nat.le_refl _) _
        have hbx : w3.heap[wr.heap.size]? = some (.cells #[.string ⟨t1.toArray⟩, .int .i64 t2, .int .i64 t3] 71 (0, 0)) := by rw [← hw3]; exact ha_eq rfl
        obtain ⟨u0, u1, u2⟩ := jbox hbx
        have z0' := (hb3.cell (p := ⟨b2, o2 + i, none⟩) (cell_lt z0)).trans z0
        have H3 := Lib.hid hb3
        have hrun : Sem.run Tryz.prog (callFunc 59 #[.agg #[.string ⟨t1.toArray⟩, .int .i64 t2, .int .i64 t3], .string ⟨y.toArray⟩]) w3 = .ok (.enter 59 #[.agg #[.string ⟨t1.toArray⟩, .int .i64 t2, .int .i64 t3], .string ⟨y.toArray⟩]) w3 := enterMayJ _ _
        have hcl3 := hcl w3
        clear hw3 hb3 hbx y0 y1 y2 z0 hcl
        go_wp2_with fail
        refine hcl3.mono ?_
        rintro e w4 ⟨rfl, hb4⟩
        have HB := Lib.hid (HR.out.2.1.trans ((H3.out.trans (hb4.mono H3.out.size)).mono HR.out.2.1.size))
        clear hcl3 hb4 hrun u0 u1 u2 z0'
        cases hf : jobOk ⟨t1, t2, t3⟩ y with
        | false =>
          have HN := Lib.hid (HX.out _ hf)
          clear hf
          have hfin : jobsOk js ds = false := by
            cases hh : jobsOk js ds with
            | false => rfl
            | true =>
              have := (HF.out.2.2.1 hh).2 i hlast HR.out.2.2
              rw [HN.out] at this; cases this
          have HZ := Lib.hid hfin
          clear hfin
          go_wp2
          refine bodyPost_ret (v := .bool false) (by simp [results, Tryz.results57, go_sem]) rfl ⟨by rw [HZ.out], HB.out⟩
        | true =>
          have HN := Lib.hid (HX.out _ hf)
          clear hf
          go_wp2
          go_roundw
          case rel => exact ⟨i + 1, by simp, by omega, fun j h1 h2 h => by
            by_cases hji : j < i
            · exact HR.out.1 j h1 h2 hji
            · have : j = i := by omega
              subst this
              exact HN.out, HB.out⟩
          case measure => simp [natI]; omega
      · have hli : ¬ (i : Int) < (js.length : Int) := by omega
        have hfin : jobsOk js ds = true := HF.out.2.2.2 ⟨HL.out, fun j h1 h2 => hall j h1 h2 (by omega)⟩
        have HZ := Lib.hid (And.intro hfin hB)
        clear hfin hB hall
        go_wp2
        refine bodyPost_ret (v := .bool true) (by simp [results, Tryz.results57, go_sem]) rfl ⟨by rw [HZ.out.1], HZ.out.2⟩
  · have hl1 : ((js.length : Int) == (ds.length : Int)) = false := by simp; omega
    have hl2 : decide ((js.length : Int) = (ds.length : Int)) = false := by simp; omega
    have hl3 : decide (js.length = ds.length) = false := by simp; omega
    have hfin : jobsOk js ds = false := by
      cases hh : jobsOk js ds with
      | false => rfl
      | true => exact absurd (HF.out.2.2.1 hh).1 hl
    have HZ := Lib.hid hfin
    clear hfin hl
    go_enter Tryz.func57, Tryz.ntmps57
    go_wp2
    refine bodyPost_ret (v := .bool false) (by simp [results, Tryz.results57, go_sem]) rfl ⟨by rw [HZ.out], Below.refl _ _⟩
end Go.Proofs.YtlpngibdplnieaaGreatDoor
