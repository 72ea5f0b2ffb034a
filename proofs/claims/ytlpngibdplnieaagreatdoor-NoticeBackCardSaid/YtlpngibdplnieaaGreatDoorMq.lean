/- Parts of the proof, joined: Nrg, Nre, Nrr. -/
import Derived.Test.YtlpngibdplnieaaGreatDoorMp
import Derived.Tactics
import Derived.Tactics2
import Derived.Defers
import Derived.Recover
import Derived.Laws.Pointers
import Derived.Test.YtlpngibdplnieaaGreatDoorNri
import Derived.Deep.RegionHeld3
import Derived.Test.YtlpngibdplnieaaGreatDoorMk
import Derived.Test.YtlpngibdplnieaaGreatDoorMm
/- notice.read: the function that recovers. -/
namespace Go.Proofs.YtlpngibdplnieaaGreatDoor
open Go Go.RowKit Go.Shelf

set_option maxRecDepth 100000 in
theorem catch_idle (p : Addr) (w : World) :
    CallsD Tryz.prog 139 #[.pointer (some p)] .returning w fun e u' w' => e = .returned (.tuple #[]) ∧ u' = .returning ∧ w' = w.alloc (.cells #[] 181) := by
  have hn : ∀ (x : TypeId) (w : World), (Instr.typeAssert .nilIface x 181 true).run Tryz.prog w = .ok (.tuple #[.agg #[], .bool false]) w := fun x w => by kernel_rfl
  refine callsD_of_wpS Tryz.func139 rfl fun c₀ cs hu => ?_
  apply wpS_seq
  apply wpS_region
  simp [wpOpsS, go_sem, recoverD, hu, Tryz.ntmps139, Exit.thenS, hn]
  apply wpS_seq
  apply wpS_region
  simp [wpOpsS, go_sem, Exit.thenS]
  refine wpS_cond (t := false) (by simp [Act.eval, Array.replicate]) ?_
  simp only [Bool.false_eq_true, if_false]
  refine wpS_of_wp (wp_skip ?_)
  cases c₀
  simp_all [bodyPostS, results, Tryz.results139]
set_option maxRecDepth 100000 in
theorem catch_odd (p : Addr) (b : Bool) (w : World) (hc : (w.alloc (.cells #[] 181)).cell? p = some (.bool b)) (hz : (w.alloc (.cells #[] 181)).frozen? p = false) :
    CallsD Tryz.prog 139 #[.pointer (some p)] (.panicking PC) w fun e u' w' => e = .returned (.tuple #[]) ∧ u' = .panicking [{ v := .iface 181 (.agg #[]), recovered := true }] ∧ w' = (w.alloc (.cells #[] 181)).setCell p (.bool false) := by
  unfold PC
  have hy : ∀ (x : TypeId) (w : World), (Instr.typeAssert (.iface 181 (.agg #[])) x 181 true).run Tryz.prog w = .ok (.tuple #[.agg #[], .bool true]) w := fun x w => by kernel_rfl
  refine callsD_of_wpS Tryz.func139 rfl fun c₀ cs hu => ?_
  apply wpS_seq
  apply wpS_region
  simp [wpOpsS, go_sem, recoverD, hu, Tryz.ntmps139, Exit.thenS, hy]
  apply wpS_seq
  apply wpS_region
  simp [wpOpsS, go_sem, Exit.thenS]
  refine wpS_cond (t := true) (by simp [Act.eval, Array.replicate]) ?_
  simp only [if_true]
  apply wpS_region
  simp [wpOpsS, go_sem, hc, hz, bodyPostS, results, Tryz.results139]
theorem leaves_congr {P : Program} {fn : Func} {R : Ending → World → Prop} {t t' : Array Value} (h : results fn t = results fn t') : ∀ (ds : List Deferred) (u : FrameMode) (w : World), Leaves P fn t R ds u w → Leaves P fn t' R ds u w
  | [], .returning, w, hl => by
    unfold Leaves at hl ⊢
    rw [← h]; exact hl
  | [], .panicking c, w, hl => hl
  | [], .run, w, hl => hl
  | d :: ds, u, w, hl => by
    unfold Leaves at hl ⊢
    obtain ⟨h1, fv, cap, f, args, h2, h3, h4⟩ := hl
    refine ⟨h1, fv, cap, f, args, h2, h3, h4.mono fun e u' w' hr => ?_⟩
    cases e with
    | returned v => exact leaves_congr h ds _ _ hr
    | panicked c => exact leaves_congr h ds _ _ hr
    | outgrown => exact hr
theorem res_put (t : Array Value) (d : Nat) (v : Value) (hd : 6 ≤ d) : results Tryz.f100 (t.setIfInBounds d v) = results Tryz.f100 t := by
  have h2 : (t.setIfInBounds d v)[2]? = t[2]? := Array.getElem?_setIfInBounds_ne (by omega)
  have h3 : (t.setIfInBounds d v)[3]? = t[3]? := Array.getElem?_setIfInBounds_ne (by omega)
  have h4 : (t.setIfInBounds d v)[4]? = t[4]? := Array.getElem?_setIfInBounds_ne (by omega)
  have h5 : (t.setIfInBounds d v)[5]? = t[5]? := Array.getElem?_setIfInBounds_ne (by omega)
  simp [results, Tryz.results100, h2, h3, h4, h5]
end Go.Proofs.YtlpngibdplnieaaGreatDoor

/- notice.read, whole. -/
namespace Go.Proofs.YtlpngibdplnieaaGreatDoor
open Go Go.RowKit Go.Shelf Go.Sort
attribute [local go_sem] bneI

theorem setCell_id {W : World} {b off : Nat} {cs : Array Value} {t : TypeId} {f : Nat × Nat} {v : Value} (h : W.heap[b]? = some (.cells cs t f)) (hv : cs[off]? = some v) : W.setCell ⟨b, off, none⟩ v = W := by
  have hlt := (Array.getElem?_eq_some_iff.1 h).1
  have hol := (Array.getElem?_eq_some_iff.1 hv).1
  have e : W.heap.modify b (fun
      | .cells c elem frozen => .cells (if (none : Option Nat).isSome then c else c.setIfInBounds off v) elem frozen
      | o => o) = W.heap := by
    apply Array.ext
    · simp
    · intro i h1 h2
      rw [Array.getElem_modify]
      split
      · rename_i hi
        subst hi
        have hg : W.heap[b] = .cells cs t f := (Array.getElem?_eq_some_iff.1 h).2
        rw [hg]
        have : cs.setIfInBounds off v = cs := by
          apply Array.ext
          · simp
          · intro j h3 h4
            rw [Array.getElem_setIfInBounds]
            split
            · rename_i hj
              subst hj
              exact ((Array.getElem?_eq_some_iff.1 hv).2).symm
            · rfl
        simp [this]
      · rfl
  show { W with heap := _ } = W
  exact congrArg (fun x => { W with heap := x }) e

/-- What reading all of a text comes to. -/
def readF (s : Bytes) : Option RdS := match linesR s with
  | some st => if st.rest = [] then some st else none
  | none => none
def ReadPost (w : World) (s : Bytes) (e : Ending) (w' : World) : Prop := ∃ (fv : Value) (st : RdS) (b : Bool), e = .returned (.tuple #[notV st.n fv, .string ⟨st.id.toArray⟩, .string ⟨st.at_.toArray⟩, .bool b]) ∧ w'.ownsRow w.heap.size 55 3 fv st.n.failed.length (st.n.failed.flatMap flE) ∧ RdOk st ∧ ((b = true ∧ readF s = some st) ∨ (b = false ∧ readF s = none))
/-- What the last steps leave. -/
structure RdE (w0 : World) (z : Nat) (fv : Value) (st : RdS) (b : Bool) (W : World) : Prop where
  below : Below w0.heap.size w0 W
  no : W.heap[z + 1]? = some (.cells (notC st.n fv).toArray 34 (0, 0))
  bi : W.heap[z + 2]? = some (.cells #[.string ⟨st.id.toArray⟩] 9 (0, 0))
  ba : W.heap[z + 3]? = some (.cells #[.string ⟨st.at_.toArray⟩] 9 (0, 0))
  b5 : W.heap[z + 4]? = some (.cells #[.bool b] 4 (0, 0))
  row : W.ownsRow w0.heap.size 55 3 fv st.n.failed.length (st.n.failed.flatMap flE)
  ok : RdOk st
theorem RdL.fin1 {w0 : World} {z : Nat} {fv : Value} {st : RdS} {V : World} (h : RdL w0 z fv st V) (b : Bool) (o : Obj) : RdE w0 z fv st b ((V.setCell ⟨z + 4, 0, none⟩ (.bool b)).alloc o) := by
  have hze := h.ze
  have hal : Below (V.setCell ⟨z + 4, 0, none⟩ (.bool b)).heap.size (V.setCell ⟨z + 4, 0, none⟩ (.bool b)) ((V.setCell ⟨z + 4, 0, none⟩ (.bool b)).alloc o) := (Below.refl _ _).alloc (Nat.le_refl _) _
  have hset : ∀ c, c ≠ z + 4 → (V.setCell ⟨z + 4, 0, none⟩ (.bool b)).heap[c]? = V.heap[c]? := fun c hc => Below.heap_setCell _ _ _ _ (by show c ≠ z + 4; exact hc)
  have key : ∀ {c : Nat} {cs : Array Value} {T : TypeId} {f : Nat × Nat}, (V.setCell ⟨z + 4, 0, none⟩ (.bool b)).heap[c]? = some (.cells cs T f) → ((V.setCell ⟨z + 4, 0, none⟩ (.bool b)).alloc o).heap[c]? = some (.cells cs T f) := fun hc => (hal.block _ (lt_of_cells hc)).trans hc
  have hs : w0.heap.size ≤ (V.setCell ⟨z + 4, 0, none⟩ (.bool b)).heap.size := (h.below.setCell (p := ⟨z + 4, 0, none⟩) (by show w0.heap.size ≤ z + 4; omega) (.bool b)).size
  refine ⟨(h.below.setCell (p := ⟨z + 4, 0, none⟩) (by show w0.heap.size ≤ z + 4; omega) _).trans (hal.mono hs), key ((hset _ (by omega)).trans h.no), key ((hset _ (by omega)).trans h.bi), key ((hset _ (by omega)).trans h.ba), key (heap_setE h.b5), ?_, h.ok⟩
  exact ownsRow_less ((own_set1 (u := .bool b) (o := 0) h.own h.b5 (by decide)).kept (World.grownBy_alloc _ o none) (Classical.em _)) (by omega)
theorem RdL.fin2 {w0 : World} {z : Nat} {fv : Value} {st : RdS} {V : World} (h : RdL w0 z fv st V) (b : Bool) (o : Obj) : RdE w0 z fv st b ((V.alloc o).setCell ⟨z + 4, 0, none⟩ (.bool b)) := by
  have hze := h.ze
  have h2 := h.keep (W' := V.alloc o) ((Below.refl _ _).alloc (Nat.le_refl _) _)
  have hset : ∀ c, c ≠ z + 4 → ((V.alloc o).setCell ⟨z + 4, 0, none⟩ (.bool b)).heap[c]? = (V.alloc o).heap[c]? := fun c hc => Below.heap_setCell _ _ _ _ (by show c ≠ z + 4; exact hc)
  refine ⟨h2.below.setCell (p := ⟨z + 4, 0, none⟩) (by show w0.heap.size ≤ z + 4; omega) _, (hset _ (by omega)).trans h2.no, (hset _ (by omega)).trans h2.bi, (hset _ (by omega)).trans h2.ba, heap_setE h2.b5, ?_, h.ok⟩
  exact ownsRow_less (own_set1 (u := .bool b) (o := 0) h2.own h2.b5 (by decide)) (by omega)
theorem sz_alloc (w : World) (o : Obj) : (w.alloc o).heap.size = w.heap.size + 1 := Array.size_push _
theorem start_rd (w : World) (s : Bytes) (hs : s.length ≤ 1000000) (hg : Glob w) : RdL w w.heap.size (.slice none 0 0) (startR s) ((((((w.alloc (.cells #[.string ⟨s.toArray⟩] 9)).alloc (.cells (notC noNot (.slice none 0 0)).toArray 34)).alloc (.cells #[.string ⟨#[]⟩] 9)).alloc (.cells #[.string ⟨#[]⟩] 9)).alloc (.cells #[.bool false] 4)).alloc (.cells #[sheetRV w.heap.size] 172)) := by
  have hB : Below w.heap.size w ((((((w.alloc (.cells #[.string ⟨s.toArray⟩] 9)).alloc (.cells (notC noNot (.slice none 0 0)).toArray 34)).alloc (.cells #[.string ⟨#[]⟩] 9)).alloc (.cells #[.string ⟨#[]⟩] 9)).alloc (.cells #[.bool false] 4)).alloc (.cells #[sheetRV w.heap.size] 172)) :=
    (((((((Below.refl _ w).alloc (Nat.le_refl _) _).alloc (by simp only [sz_alloc]; omega) _).alloc (by simp only [sz_alloc]; omega) _).alloc (by simp only [sz_alloc]; omega) _).alloc (by simp only [sz_alloc]; omega) _).alloc (by simp only [sz_alloc]; omega) _)
  refine ⟨rfl, hB, ?_, ?_, ⟨rfl, .inl ⟨rfl, rfl⟩⟩, ?_, ?_, ?_, ?_, hg.keep hB, ⟨⟨Nat.zero_le _, Nat.zero_le _, Nat.zero_le _, Nat.zero_le _, fun f hf => by cases hf⟩, Nat.zero_le _, Nat.zero_le _, hs, by show 0 * 2 + s.length ≤ _; omega⟩⟩
  · rw [ha_ne (by simp only [sz_alloc]; omega), ha_ne (by simp only [sz_alloc]; omega), ha_ne (by simp only [sz_alloc]; omega), ha_ne (by simp only [sz_alloc]; omega), ha_ne (by simp only [sz_alloc]; omega)]
    exact ha_eq rfl
  · rw [ha_ne (by simp only [sz_alloc]; omega), ha_ne (by simp only [sz_alloc]; omega), ha_ne (by simp only [sz_alloc]; omega), ha_ne (by simp only [sz_alloc]; omega)]
    exact ha_eq (by simp only [sz_alloc])
  · rw [ha_ne (by simp only [sz_alloc]; omega), ha_ne (by simp only [sz_alloc]; omega), ha_ne (by simp only [sz_alloc]; omega)]
    exact ha_eq (by simp only [sz_alloc])
  · rw [ha_ne (by simp only [sz_alloc]; omega), ha_ne (by simp only [sz_alloc]; omega)]
    exact ha_eq (by simp only [sz_alloc])
  · rw [ha_ne (by simp only [sz_alloc]; omega)]
    exact ha_eq (by simp only [sz_alloc])
  · exact ha_eq (by simp only [sz_alloc])
set_option linter.unusedSimpArgs false in
set_option maxRecDepth 1000000 in
set_option maxHeartbeats 16000000 in
theorem read_any (s : Bytes) (w : World) (hs : s.length ≤ 1000000) (hg : Glob w) : Calls Tryz.prog 100 #[.string ⟨s.toArray⟩] w fun e w' => ReadPost w s e w' ∧ Below w.heap.size w w' := by
  have hmf : ∀ (fn : Fn) (first cap : Array Value) (w : World), (Instr.makeFunc fn first cap).run Tryz.prog w = .ok (.func fn first cap) w := fun _ _ _ _ => rfl
  obtain ⟨W1, hW1⟩ : ∃ W1, W1 = (((((w.alloc (.cells #[.string ⟨s.toArray⟩] 9)).alloc (.cells (notC noNot (.slice none 0 0)).toArray 34)).alloc (.cells #[.string ⟨#[]⟩] 9)).alloc (.cells #[.string ⟨#[]⟩] 9)).alloc (.cells #[.bool false] 4)) := ⟨_, rfl⟩
  have hst := start_rd w s hs hg
  rw [← hW1] at hst
  have hL := linesR_any w w.heap.size s W1 (by rw [hW1]; simp only [sz_alloc]) hst hg hs
  obtain ⟨z, hz⟩ : ∃ z, z = w.heap.size := ⟨_, rfl⟩
  rw [← hz] at hL
  have hz1 : w.heap.size + 1 = z + 1 := by rw [hz]
  have HZ := Lib.hid hz
  unfold sheetRV at hL
  unfold notC noNot at hW1
  dsimp only at hW1
  clear hst hg hs
  go_enter_defers Tryz.func100, Tryz.ntmps100
  go_upto_region 1 with (fail)
  rw [← hW1, ← hz]
  rw [show z + 1 + 1 = z + 2 from rfl, show z + 2 + 1 = z + 3 from rfl, show z + 3 + 1 = z + 4 from rfl]
  clear hW1 hz hz1
  go_wp2_with fail
  refine hL.mono ?_
  rintro e w2 (⟨fv, st, hl, rfl, hR⟩ | ⟨hl, rfl, fv, st, hR⟩)
  · obtain ⟨pp, cc, hpc⟩ := own_shape hR.own
    subst hpc
    have hno := hR.no
    have hbs := hR.bs
    have hbi := hR.bi
    have hba := hR.ba
    have hb5 := hR.b5
    unfold notC at hno
    obtain ⟨x0, x1, x2, x3, x4, x5⟩ := nobox (W := w2.drew) hno
    have x6 : w2.drew.cell? ⟨z + 2, 0, none⟩ = some (.string ⟨st.id.toArray⟩) := by have e : w2.drew.heap = w2.heap := rfl; simp [World.cell?, e, hbi]
    have x7 : w2.drew.cell? ⟨z + 3, 0, none⟩ = some (.string ⟨st.at_.toArray⟩) := by have e : w2.drew.heap = w2.heap := rfl; simp [World.cell?, e, hba]
    have x8 : w2.drew.cell? ⟨z, 0, none⟩ = some (.string ⟨st.rest.toArray⟩) := by have e : w2.drew.heap = w2.heap := rfl; simp [World.cell?, e, hbs]
    have s0 := setCell_id (W := w2.drew) (off := 0) (v := .int .i64 st.n.id) hno rfl
    have s1 := setCell_id (W := w2.drew) (off := 1) (v := .string ⟨st.n.host.toArray⟩) hno rfl
    have s2 := setCell_id (W := w2.drew) (off := 2) (v := .string ⟨st.n.dest.toArray⟩) hno rfl
    have s3 := setCell_id (W := w2.drew) (off := 3) (v := .string ⟨st.n.envid.toArray⟩) hno rfl
    have s4 := setCell_id (W := w2.drew) (off := 4) (v := .int .i64 st.n.at_) hno rfl
    have s5 := setCell_id (W := w2.drew) (off := 5) (v := .slice pp st.n.failed.length cc) hno rfl
    have s6 := setCell_id (W := w2.drew) (off := 0) (v := .string ⟨st.id.toArray⟩) hbi rfl
    have s7 := setCell_id (W := w2.drew) (off := 0) (v := .string ⟨st.at_.toArray⟩) hba rfl
    have f0 := efroz (W := w2.drew) hno 0
    have f1 := efroz (W := w2.drew) hno 1
    have f2 := efroz (W := w2.drew) hno 2
    have f3 := efroz (W := w2.drew) hno 3
    have f4 := efroz (W := w2.drew) hno 4
    have f5 := efroz (W := w2.drew) hno 5
    have f6 := efroz (W := w2.drew) hbi 0
    have f7 := efroz (W := w2.drew) hba 0
    have f8 := efroz (W := w2.drew) hb5 0
    have y8 : w2.drew.cell? ⟨z + 4, 0, none⟩ = some (.bool false) := by
      have e : w2.drew.heap = w2.heap := rfl
      simp [World.cell?, e, hb5]
    have hS0 : w2.drew.cell? ⟨z + 1, 0, none⟩ = some (.int .i64 st.n.id) ∧ w2.drew.cell? ⟨z + 1, 1, none⟩ = some (.string ⟨st.n.host.toArray⟩) ∧ w2.drew.cell? ⟨z + 1, 2, none⟩ = some (.string ⟨st.n.dest.toArray⟩) ∧ w2.drew.cell? ⟨z + 1, 3, none⟩ = some (.string ⟨st.n.envid.toArray⟩) ∧ w2.drew.cell? ⟨z + 1, 4, none⟩ = some (.int .i64 st.n.at_) ∧ w2.drew.cell? ⟨z + 1, 5, none⟩ = some (.slice pp st.n.failed.length cc) ∧ w2.drew.cell? ⟨z + 2, 0, none⟩ = some (.string ⟨st.id.toArray⟩) ∧ w2.drew.cell? ⟨z + 3, 0, none⟩ = some (.string ⟨st.at_.toArray⟩) ∧ w2.drew.cell? ⟨z, 0, none⟩ = some (.string ⟨st.rest.toArray⟩) := ⟨x0, x1, x2, x3, x4, x5, x6, x7, x8⟩
    have hSet : ∀ v : Value, (w2.drew.setCell ⟨z + 4, 0, none⟩ v).cell? ⟨z + 1, 0, none⟩ = some (.int .i64 st.n.id) ∧ (w2.drew.setCell ⟨z + 4, 0, none⟩ v).cell? ⟨z + 1, 1, none⟩ = some (.string ⟨st.n.host.toArray⟩) ∧ (w2.drew.setCell ⟨z + 4, 0, none⟩ v).cell? ⟨z + 1, 2, none⟩ = some (.string ⟨st.n.dest.toArray⟩) ∧ (w2.drew.setCell ⟨z + 4, 0, none⟩ v).cell? ⟨z + 1, 3, none⟩ = some (.string ⟨st.n.envid.toArray⟩) ∧ (w2.drew.setCell ⟨z + 4, 0, none⟩ v).cell? ⟨z + 1, 4, none⟩ = some (.int .i64 st.n.at_) ∧ (w2.drew.setCell ⟨z + 4, 0, none⟩ v).cell? ⟨z + 1, 5, none⟩ = some (.slice pp st.n.failed.length cc) ∧ (w2.drew.setCell ⟨z + 4, 0, none⟩ v).cell? ⟨z + 2, 0, none⟩ = some (.string ⟨st.id.toArray⟩) ∧ (w2.drew.setCell ⟨z + 4, 0, none⟩ v).cell? ⟨z + 3, 0, none⟩ = some (.string ⟨st.at_.toArray⟩) ∧ (w2.drew.setCell ⟨z + 4, 0, none⟩ v).cell? ⟨z, 0, none⟩ = some (.string ⟨st.rest.toArray⟩) := fun v => by
      have hh := fun (a : Addr) (u : Value) (hne : a.block ≠ z + 4) (h : w2.drew.cell? a = some u) => (World.cell?_setCell_other (w := w2.drew) (a := ⟨z + 4, 0, none⟩) (b := a) (v := v) (h := fun e => hne (by rw [← e]))).trans h
      exact ⟨hh _ _ (by show z + 1 ≠ z + 4; omega) x0, hh _ _ (by show z + 1 ≠ z + 4; omega) x1, hh _ _ (by show z + 1 ≠ z + 4; omega) x2, hh _ _ (by show z + 1 ≠ z + 4; omega) x3, hh _ _ (by show z + 1 ≠ z + 4; omega) x4, hh _ _ (by show z + 1 ≠ z + 4; omega) x5, hh _ _ (by show z + 2 ≠ z + 4; omega) x6, hh _ _ (by show z + 3 ≠ z + 4; omega) x7, hh _ _ (by show z ≠ z + 4; omega) x8⟩
    have HSET := Lib.hid hSet
    have HR := Lib.hid hl
    have HRV := Lib.hid (hR.keep (below_drew w2))
    clear hSet hno hbs hbi hba hb5 hl hR hL
    go_upto_region 3 with (fail)
    refine wp_region_held_drew (S := (fun W => W.cell? ⟨z + 1, 0, none⟩ = some (.int .i64 st.n.id) ∧ W.cell? ⟨z + 1, 1, none⟩ = some (.string ⟨st.n.host.toArray⟩) ∧ W.cell? ⟨z + 1, 2, none⟩ = some (.string ⟨st.n.dest.toArray⟩) ∧ W.cell? ⟨z + 1, 3, none⟩ = some (.string ⟨st.n.envid.toArray⟩) ∧ W.cell? ⟨z + 1, 4, none⟩ = some (.int .i64 st.n.at_) ∧ W.cell? ⟨z + 1, 5, none⟩ = some (.slice pp st.n.failed.length cc) ∧ W.cell? ⟨z + 2, 0, none⟩ = some (.string ⟨st.id.toArray⟩) ∧ W.cell? ⟨z + 3, 0, none⟩ = some (.string ⟨st.at_.toArray⟩) ∧ W.cell? ⟨z, 0, none⟩ = some (.string ⟨st.rest.toArray⟩))) (by kernel_rfl) hS0 (fun hHeld => ?_)
    have HV := Lib.hid (show w2.drew = w2.drew from rfl)
    generalize hV : World.drew w2 = V at *
    clear hV
    refine wpAnyH_take (i := 0) (oi := ?oia0) (v := ?va0) ?h1a0 (by kernel_rfl) (by kernel_rfl) (by kernel_rfl) ?h2a0 ?hya0 (by assumption) ?resta0
    case h1a0 => (simp only [List.getElem?_toArray, List.getElem?_cons_succ, List.getElem?_cons_zero]; try rfl)
    case h2a0 => (intro c a w h; exact leaves_congr (res_put _ _ _ (by decide)) _ _ _ h)
    case hya0 => (refine Or.inl ⟨by rfl, ?_⟩; intro w hSw; (obtain ⟨l0, l1, l2, l3, l4, l5, l6, l7, l8⟩ := hSw); go_simp; (try with_reducible rfl))
    try simp only [Act.put, List.setIfInBounds_toArray, List.set_cons_zero, List.set_cons_succ]
    refine wpAnyH_take (i := 1) (oi := ?oia1) (v := ?va1) ?h1a1 (by kernel_rfl) (by kernel_rfl) (by kernel_rfl) ?h2a1 ?hya1 (by assumption) ?resta1
    case h1a1 => (simp only [List.getElem?_toArray, List.getElem?_cons_succ, List.getElem?_cons_zero]; try rfl)
    case h2a1 => (intro c a w h; exact leaves_congr (res_put _ _ _ (by decide)) _ _ _ h)
    case hya1 => (refine Or.inl ⟨by rfl, ?_⟩; intro w hSw; (obtain ⟨l0, l1, l2, l3, l4, l5, l6, l7, l8⟩ := hSw); go_simp; (try with_reducible rfl))
    try simp only [Act.put, List.setIfInBounds_toArray, List.set_cons_zero, List.set_cons_succ]
    refine wpAnyH_take (i := 2) (oi := ?oia2) (v := ?va2) ?h1a2 (by kernel_rfl) (by kernel_rfl) (by kernel_rfl) ?h2a2 ?hya2 (by assumption) ?resta2
    case h1a2 => (simp only [List.getElem?_toArray, List.getElem?_cons_succ, List.getElem?_cons_zero]; try rfl)
    case h2a2 => (intro c a w h; exact leaves_congr (res_put _ _ _ (by decide)) _ _ _ h)
    case hya2 => (refine Or.inl ⟨by rfl, ?_⟩; intro w hSw; (obtain ⟨l0, l1, l2, l3, l4, l5, l6, l7, l8⟩ := hSw); go_simp; (try with_reducible rfl))
    try simp only [Act.put, List.setIfInBounds_toArray, List.set_cons_zero, List.set_cons_succ]
    refine wpAnyH_take (i := 3) (oi := ?oia3) (v := ?va3) ?h1a3 (by kernel_rfl) (by kernel_rfl) (by kernel_rfl) ?h2a3 ?hya3 (by assumption) ?resta3
    case h1a3 => (simp only [List.getElem?_toArray, List.getElem?_cons_succ, List.getElem?_cons_zero]; try rfl)
    case h2a3 => (intro c a w h; exact leaves_congr (res_put _ _ _ (by decide)) _ _ _ h)
    case hya3 => (refine Or.inl ⟨by rfl, ?_⟩; intro w hSw; (obtain ⟨l0, l1, l2, l3, l4, l5, l6, l7, l8⟩ := hSw); go_simp; (try with_reducible rfl))
    try simp only [Act.put, List.setIfInBounds_toArray, List.set_cons_zero, List.set_cons_succ]
    refine wpAnyH_take (i := 4) (oi := ?oia4) (v := ?va4) ?h1a4 (by kernel_rfl) (by kernel_rfl) (by kernel_rfl) ?h2a4 ?hya4 (by assumption) ?resta4
    case h1a4 => (simp only [List.getElem?_toArray, List.getElem?_cons_succ, List.getElem?_cons_zero]; try rfl)
    case h2a4 => (intro c a w h; exact leaves_congr (res_put _ _ _ (by decide)) _ _ _ h)
    case hya4 => (refine Or.inl ⟨by rfl, ?_⟩; intro w hSw; (obtain ⟨l0, l1, l2, l3, l4, l5, l6, l7, l8⟩ := hSw); go_simp; (try with_reducible rfl))
    try simp only [Act.put, List.setIfInBounds_toArray, List.set_cons_zero, List.set_cons_succ]
    refine wpAnyH_ready (rs := [5]) (by kernel_rfl) (by simp) ?_
    refine AllReadyH.cons (o := ?oR4_5) ?h1R4_5 (fun K hK => ?R4_5) AllReadyH.nil
    case h1R4_5 => (simp only [List.getElem?_toArray, List.getElem?_cons_succ, List.getElem?_cons_zero]; try rfl)
    case R4_5 =>
      go_simp
      (try rw [s0, s1, s2, s3, s4, s5])
      refine hK.out _ _ hS0 (fun hHeld => ?_)
      clear hK K
      try simp only [Act.put, List.setIfInBounds_toArray, List.set_cons_zero, List.set_cons_succ]
      refine wpAnyH_ready (rs := [6]) (by kernel_rfl) (by simp) ?_
      refine AllReadyH.cons (o := ?oR3_6) ?h1R3_6 (fun K hK => ?R3_6) AllReadyH.nil
      case h1R3_6 => (simp only [List.getElem?_toArray, List.getElem?_cons_succ, List.getElem?_cons_zero]; try rfl)
      case R3_6 =>
        go_simp
        (try rw [s6])
        refine hK.out _ _ hS0 (fun hHeld => ?_)
        clear hK K
        try simp only [Act.put, List.setIfInBounds_toArray, List.set_cons_zero, List.set_cons_succ]
        refine wpAnyH_ready (rs := [7]) (by kernel_rfl) (by simp) ?_
        refine AllReadyH.cons (o := ?oR2_7) ?h1R2_7 (fun K hK => ?R2_7) AllReadyH.nil
        case h1R2_7 => (simp only [List.getElem?_toArray, List.getElem?_cons_succ, List.getElem?_cons_zero]; try rfl)
        case R2_7 =>
          go_simp
          (try rw [s7])
          refine hK.out _ _ hS0 (fun hHeld => ?_)
          clear hK K
          try simp only [Act.put, List.setIfInBounds_toArray, List.set_cons_zero, List.set_cons_succ]
          refine wpAnyH_ready (rs := [8]) (by kernel_rfl) (by simp) ?_
          refine AllReadyH.cons (o := ?oR1_8) ?h1R1_8 (fun K hK => ?R1_8) AllReadyH.nil
          case h1R1_8 => (simp only [List.getElem?_toArray, List.getElem?_cons_succ, List.getElem?_cons_zero]; try rfl)
          case R1_8 =>
            go_simp
            refine hK.out _ _ (HSET.out _) (fun hHeld => ?_)
            clear hK K
            try simp only [Act.put, List.setIfInBounds_toArray, List.set_cons_zero, List.set_cons_succ]
            refine wpAnyH_done (by kernel_rfl) ?_ _
            go_wp2
            refine leaves_cons (f := 139) (args := #[.pointer (some ⟨z + 4, 0, none⟩)]) (by simp) (by simp [go_sem]) ?_
            refine (catch_idle ⟨z + 4, 0, none⟩ _).mono ?_
            rintro e u' w'' ⟨rfl, rfl, rfl⟩
            have HE := Lib.hid (HRV.out.fin1 st.rest.isEmpty (.cells #[] 181))
            have hrf : readF s = if st.rest = [] then some st else none := by unfold readF; rw [HR.out]
            have hpost : (st.rest.isEmpty = true ∧ readF s = some st) ∨ (st.rest.isEmpty = false ∧ readF s = none) := by
              rw [hrf]
              cases hre : st.rest with
              | nil => exact .inl ⟨rfl, if_pos rfl⟩
              | cons a l => exact .inr ⟨rfl, if_neg (by intro h; cases h)⟩
            have HP := Lib.hid hpost
            clear hpost hrf s0 s1 s2 s3 s4 s5 s6 s7 f0 f1 f2 f3 f4 f5 f6 f7 f8 y8 hS0 x0 x1 x2 x3 x4 x5 x6 x7 x8 HSET
            generalize st.rest.isEmpty = bb at *
            obtain ⟨-, hno, hbi, hba, hb5, -, -⟩ := HE.out
            unfold notC at hno
            obtain ⟨x0, x1, x2, x3, x4, x5⟩ := nobox hno
            generalize hw9 : World.alloc _ _ = w9 at HE hno hbi hba hb5 x0 x1 x2 x3 x4 x5 ⊢
            clear hw9
            have x6 : w9.cell? ⟨z + 2, 0, none⟩ = some (.string ⟨st.id.toArray⟩) := by simp [World.cell?, hbi]
            have x7 : w9.cell? ⟨z + 3, 0, none⟩ = some (.string ⟨st.at_.toArray⟩) := by simp [World.cell?, hba]
            have x8 : w9.cell? ⟨z + 4, 0, none⟩ = some (.bool bb) := by simp [World.cell?, hb5]
            clear hno hbi hba hb5
            refine ⟨.tuple #[notV st.n (.slice pp st.n.failed.length cc), .string ⟨st.id.toArray⟩, .string ⟨st.at_.toArray⟩, .bool bb], by simp [results, Tryz.results100, go_sem, x0, x1, x2, x3, x4, x5, x6, x7, x8, notV, notC], ⟨_, st, bb, rfl, HE.out.row, HE.out.ok, HP.out⟩, HE.out.below⟩
  · obtain ⟨pp, cc, hpc⟩ := own_shape hR.own
    subst hpc
    have hR2 := hR.fin2 false (.cells #[] 181)
    have h3 := hR.keep (W' := w2.alloc (.cells #[] 181)) ((Below.refl _ _).alloc (Nat.le_refl _) _)
    have hb5 := h3.b5
    have hrf : readF s = none := by unfold readF; rw [hl]
    have HRF := Lib.hid hrf
    have HE := Lib.hid hR2
    refine leaves_cons (f := 139) (args := #[.pointer (some ⟨z + 4, 0, none⟩)]) (by simp) (by simp [go_sem]) ?_
    refine (catch_odd ⟨z + 4, 0, none⟩ false _ (by simp [World.cell?, hb5]) (by simp [World.frozen?, hb5])).mono ?_
    rintro e u' w'' ⟨rfl, rfl, rfl⟩
    clear hL hR hR2 h3 hb5 hl hrf
    obtain ⟨-, hno, hbi, hba, hb5, -, -⟩ := HE.out
    unfold notC at hno
    obtain ⟨x0, x1, x2, x3, x4, x5⟩ := nobox hno
    generalize hw9 : World.setCell _ _ _ = w9 at HE hno hbi hba hb5 x0 x1 x2 x3 x4 x5 ⊢
    clear hw9
    have x6 : w9.cell? ⟨z + 2, 0, none⟩ = some (.string ⟨st.id.toArray⟩) := by simp [World.cell?, hbi]
    have x7 : w9.cell? ⟨z + 3, 0, none⟩ = some (.string ⟨st.at_.toArray⟩) := by simp [World.cell?, hba]
    have x8 : w9.cell? ⟨z + 4, 0, none⟩ = some (.bool false) := by simp [World.cell?, hb5]
    clear hno hbi hba hb5
    refine ⟨.tuple #[notV st.n (.slice pp st.n.failed.length cc), .string ⟨st.id.toArray⟩, .string ⟨st.at_.toArray⟩, .bool false], by simp [results, Tryz.results100, go_sem, x0, x1, x2, x3, x4, x5, x6, x7, x8, notV, notC], ⟨_, st, false, rfl, HE.out.row, HE.out.ok, .inr ⟨rfl, HRF.out⟩⟩, HE.out.below⟩
end Go.Proofs.YtlpngibdplnieaaGreatDoor

/- notice.Read. -/
namespace Go.Proofs.YtlpngibdplnieaaGreatDoor
open Go Go.RowKit Go.Shelf Go.Sort
attribute [local go_sem] bneI

/-- The notice of a text. -/
def readM (st : RdS) : NotP := { st.n with id := ((numC st.id 1099511627776).1 : Int), at_ := ((numC st.at_ 1099511627776).1 : Int) }
def readN (s : Bytes) : Option NotP := match readF s with
  | some st => if (numC st.id 1099511627776).2 = 0 ∧ (numC st.at_ 1099511627776).2 = 0 ∧ mayNot (readM st) = true ∧ textN (readM st) = s then some (readM st) else none
  | none => none
theorem noShort : ShortN noNot := ⟨Nat.zero_le _, Nat.zero_le _, Nat.zero_le _, Nat.zero_le _, fun f hf => by cases hf⟩
theorem noRow (w : World) : RowK 3 flE w (.slice none 0 0) noNot.failed := ⟨none, 0, rfl, Nat.le_refl _, fun h => absurd rfl h⟩
def ReadPostN (s : Bytes) (e : Ending) (w' : World) : Prop := ∃ (m : NotP) (fv : Value) (er : Nat), e = .returned (.tuple #[notV m fv, .int .i64 (er : Int)]) ∧ RowK 3 flE w' fv m.failed ∧ ShortN m ∧ ((er = 0 ∧ readN s = some m) ∨ (er = 4 ∧ readN s = none))
set_option linter.unusedSimpArgs false in
set_option linter.unusedVariables false in
set_option maxRecDepth 1000000 in
set_option maxHeartbeats 16000000 in
theorem readN_any (s : Bytes) (w : World) (hs : s.length ≤ 1000000) (hE : Env8 w) : Calls Tryz.prog 36 #[.string ⟨s.toArray⟩] w fun e w' => ReadPostN s e w' ∧ Below w.heap.size w w' := by
  obtain ⟨W1, hW1⟩ : ∃ W1, W1 = w.alloc (.cells (notC noNot (.slice none 0 0)).toArray 34) := ⟨_, rfl⟩
  have hB1 : Below w.heap.size w W1 := by rw [hW1]; exact (Below.refl _ w).alloc (Nat.le_refl _) _
  have hb1 : W1.heap[w.heap.size]? = some (.cells (notC noNot (.slice none 0 0)).toArray 34 (0, 0)) := by rw [hW1]; exact ha_eq rfl
  have hRd := read_any s W1 hs (hE.keep hB1).env.glob
  obtain ⟨b2, hb2e⟩ : ∃ b2, b2 = w.heap.size := ⟨_, rfl⟩
  have HB2 := Lib.hid hb2e
  rw [← hb2e] at hb1
  have HX := Lib.hid (And.intro hB1 (And.intro hb1 (And.intro hE hs)))
  unfold notC noNot at hW1
  dsimp only at hW1
  clear hB1 hb1 hs hE
  go_enter Tryz.func36, Tryz.ntmps36
  go_upto_region 1 with (fail)
  rw [← hW1, ← hb2e]
  clear hW1 hb2e
  go_wp2_with fail
  refine hRd.mono ?_
  rintro e w2 ⟨⟨fv, st, b, rfl, hown, hok, hrf⟩, hb2⟩
  obtain ⟨pp, cc, hpc⟩ := own_shape hown
  subst hpc
  have hal : Below w2.heap.size w2 (w2.alloc (.cells (notC st.n (.slice pp st.n.failed.length cc)).toArray 34)) := (Below.refl _ _).alloc (Nat.le_refl _) _
  have hz3 := (hal.block _ (lt_of_cells ((hb2.block _ (lt_of_cells HX.out.2.1)).trans HX.out.2.1))).trans ((hb2.block _ (lt_of_cells HX.out.2.1)).trans HX.out.2.1)
  have hw1s : w.heap.size ≤ W1.heap.size := HX.out.1.size
  obtain ⟨w3, hw3⟩ : ∃ w3, w3 = w2.alloc (.cells (notC st.n (.slice pp st.n.failed.length cc)).toArray 34) := ⟨_, rfl⟩
  have hx4 : w3.heap[w2.heap.size]? = some (.cells (notC st.n (.slice pp st.n.failed.length cc)).toArray 34 (0, 0)) := by rw [hw3]; exact ha_eq rfl
  rw [← hw3] at hal hz3
  have hown3 := hown.kept (grownBy_of_below hal none) (Classical.em _)
  obtain ⟨b4, hb4e⟩ : ∃ b4, b4 = w2.heap.size := ⟨_, rfl⟩
  have hne : b2 ≠ b4 := by have h1 := lt_of_cells HX.out.2.1; have h2 := hb2.size; omega
  have hge : w.heap.size ≤ b4 := by have h2 := hb2.size; omega
  rw [← hb4e] at hx4
  have H3 := Lib.hid (And.intro (HX.out.1.trans ((hb2.trans (hal.mono hb2.size)).mono hw1s)) (And.intro hz3 (And.intro hx4 (And.intro hown3 (And.intro hok (And.intro hrf (And.intro hne hge)))))))
  unfold notC at hw3
  clear hRd hown hok hrf hal hz3 hx4 hown3 hb2 hw1s hne hge
  unfold notV notC
  go_upto_region 2 with (fail)
  rw [← hw3, ← hb4e]
  clear hw3 hb4e
  cases b with
  | false =>
    have hnone : readN s = none := by
      rcases H3.out.2.2.2.2.2.1 with ⟨h, _⟩ | ⟨_, h⟩
      · cases h
      · unfold readN; rw [h]
    have hz := H3.out.2.1
    unfold notC noNot at hz
    dsimp only at hz
    obtain ⟨z0, z1, z2, z3, z4, z5⟩ := nobox hz
    have s0 := setCell_id (W := w3) (off := 0) (v := .int .i64 0) hz rfl
    have f0 := efroz hz 0
    have s1 := setCell_id (W := w3) (off := 1) (v := .string ⟨#[]⟩) hz rfl
    have f1 := efroz hz 1
    have s2 := setCell_id (W := w3) (off := 2) (v := .string ⟨#[]⟩) hz rfl
    have f2 := efroz hz 2
    have s3 := setCell_id (W := w3) (off := 3) (v := .string ⟨#[]⟩) hz rfl
    have f3 := efroz hz 3
    have s4 := setCell_id (W := w3) (off := 4) (v := .int .i64 0) hz rfl
    have f4 := efroz hz 4
    have s5 := setCell_id (W := w3) (off := 5) (v := .slice none 0 0) hz rfl
    have f5 := efroz hz 5
    have HFIN := Lib.hid H3.out.1
    have HWHY := Lib.hid hnone
    clear hz hnone
    go_wp2
    (try rw [s0, s1, s2, s3, s4, s5])
    refine bodyPost_ret (v := .tuple #[notV noNot (.slice none 0 0), .int .i64 4]) (by simp [results, Tryz.results36, go_sem, z0, z1, z2, z3, z4, z5, notV, notC, noNot]) rfl ⟨⟨noNot, _, 4, rfl, noRow _, noShort, .inr ⟨rfl, HWHY.out⟩⟩, HFIN.out⟩
  | true =>
    have hrf : readF s = some st := by
      rcases H3.out.2.2.2.2.2.1 with ⟨_, h⟩ | ⟨h, _⟩
      · exact h
      · cases h
    have HRF := Lib.hid hrf
    clear hrf
    have hN1 := num_any st.id 1099511627776 w3 (by have := H3.out.2.2.2.2.1.id; omega) (by decide) (HX.out.2.2.1.keep H3.out.1)
    unfold NumPost at hN1
    obtain ⟨q1, hq1⟩ : ∃ q1, q1 = numC st.id 1099511627776 := ⟨_, rfl⟩
    rw [← hq1] at hN1
    have HQ1 := Lib.hid hq1
    clear hq1
    go_wp2_with fail
    refine hN1.mono ?_
    rintro e w4 ⟨rfl, hb4⟩
    have hx4 := (hb4.block _ (lt_of_cells H3.out.2.2.1)).trans H3.out.2.2.1
    have hz4 := (hb4.block _ (lt_of_cells H3.out.2.1)).trans H3.out.2.1
    have hB4 := H3.out.1.trans (hb4.mono H3.out.1.size)
    have hown4 := H3.out.2.2.2.1.kept (grownBy_of_below hb4 none) (Classical.em _)
    obtain ⟨W5, hW5⟩ : ∃ W5, W5 = w4.setCell ⟨b4, 0, none⟩ (.int .i64 (q1.1 : Int)) := ⟨_, rfl⟩
    have hB5 : Below w.heap.size w W5 := by rw [hW5]; exact hB4.setCell (p := ⟨b4, 0, none⟩) H3.out.2.2.2.2.2.2.2 _
    have hx5 : W5.heap[b4]? = some (.cells (notC { st.n with id := (q1.1 : Int) } (.slice pp st.n.failed.length cc)).toArray 34 (0, 0)) := by rw [hW5]; exact (heap_setE hx4).trans (by simp [notC])
    have hz5 : W5.heap[b2]? = some (.cells (notC noNot (.slice none 0 0)).toArray 34 (0, 0)) := by rw [hW5, Below.heap_setCell _ _ _ _ (by show b2 ≠ b4; exact H3.out.2.2.2.2.2.2.1)]; exact hz4
    have hown5 := own_set1 (u := .int .i64 (q1.1 : Int)) (o := 0) hown4 hx4 (by decide)
    rw [← hW5] at hown5
    have H5 := Lib.hid (And.intro hB5 (And.intro hz5 (And.intro hx5 hown5)))
    unfold notC at hx4
    obtain ⟨x0, x1, x2, x3, x4, x5⟩ := nobox hx4
    have f0 := efroz hx4 0
    clear hN1 hb4 hz4 hB4 hown4 hB5 hx5 hz5 hown5 hx4 x1 x2 x3 x4 x5
    go_upto_region 6 with (fail)
    rw [← hW5]
    clear hW5 x0 f0
    have hN2 := num_any st.at_ 1099511627776 W5 (by have := H3.out.2.2.2.2.1.at_; omega) (by decide) (HX.out.2.2.1.keep H5.out.1)
    unfold NumPost at hN2
    obtain ⟨q2, hq2⟩ : ∃ q2, q2 = numC st.at_ 1099511627776 := ⟨_, rfl⟩
    rw [← hq2] at hN2
    have HQ2 := Lib.hid hq2
    clear hq2
    go_wp2_with fail
    refine hN2.mono ?_
    rintro e w6 ⟨rfl, hb6⟩
    have hx6 := (hb6.block _ (lt_of_cells H5.out.2.2.1)).trans H5.out.2.2.1
    have hz6 := (hb6.block _ (lt_of_cells H5.out.2.1)).trans H5.out.2.1
    have hB6 := H5.out.1.trans (hb6.mono H5.out.1.size)
    have hown6 := H5.out.2.2.2.kept (grownBy_of_below hb6 none) (Classical.em _)
    obtain ⟨W7, hW7⟩ : ∃ W7, W7 = w6.setCell ⟨b4, 4, none⟩ (.int .i64 (q2.1 : Int)) := ⟨_, rfl⟩
    have hB7 : Below w.heap.size w W7 := by rw [hW7]; exact hB6.setCell (p := ⟨b4, 4, none⟩) H3.out.2.2.2.2.2.2.2 _
    have hm : { st.n with id := (q1.1 : Int), at_ := (q2.1 : Int) } = readM st := by rw [HQ1.out, HQ2.out]; rfl
    have hx7 : W7.heap[b4]? = some (.cells (notC (readM st) (.slice pp st.n.failed.length cc)).toArray 34 (0, 0)) := by rw [hW7, ← hm]; exact (heap_setE hx6).trans (by simp [notC])
    have hz7 : W7.heap[b2]? = some (.cells (notC noNot (.slice none 0 0)).toArray 34 (0, 0)) := by rw [hW7, Below.heap_setCell _ _ _ _ (by show b2 ≠ b4; exact H3.out.2.2.2.2.2.2.1)]; exact hz6
    have hown7 := own_set1 (u := .int .i64 (q2.1 : Int)) (o := 4) hown6 hx6 (by decide)
    rw [← hW7] at hown7
    have H7 := Lib.hid (And.intro hB7 (And.intro hz7 (And.intro hx7 hown7)))
    unfold notC at hx6
    obtain ⟨x0, x1, x2, x3, x4, x5⟩ := nobox hx6
    have f4 := efroz hx6 4
    clear hN2 hb6 hz6 hB6 hown6 hB7 hx7 hz7 hown7 hx6 x0 x1 x2 x3 x5 hm
    go_upto_region 7 with (fail)
    rw [← hW7]
    clear hW7 x4 f4
    have hnn : ∀ (h : ¬ (q1.2 = 0 ∧ q2.2 = 0 ∧ mayNot (readM st) = true ∧ textN (readM st) = s)), readN s = none := fun h => by
      unfold readN
      rw [HRF.out]
      dsimp only
      rw [if_neg]
      rw [← HQ1.out, ← HQ2.out]
      exact h
    have HNN := Lib.hid hnn
    clear hnn
    by_cases hq1 : q1.2 = 0
    · by_cases hq2 : q2.2 = 0
      · rw [hq1, hq2]
        have hTx := text_any (readM st) _ W7 (own_rowK (k := 3) (enc := flE) (fun _ => rfl) H7.out.2.2.2) ⟨H3.out.2.2.2.2.1.sh.host, H3.out.2.2.2.2.1.sh.dest, H3.out.2.2.2.2.1.sh.envid, H3.out.2.2.2.2.1.sh.failed, H3.out.2.2.2.2.1.sh.each⟩ (HX.out.2.2.1.keep H7.out.1).env
        have hsh : ShortN (readM st) := ⟨H3.out.2.2.2.2.1.sh.host, H3.out.2.2.2.2.1.sh.dest, H3.out.2.2.2.2.1.sh.envid, H3.out.2.2.2.2.1.sh.failed, H3.out.2.2.2.2.1.sh.each⟩
        obtain ⟨m, hm⟩ : ∃ m, m = readM st := ⟨_, rfl⟩
        have hfl : st.n.failed = m.failed := by rw [hm]; rfl
        rw [← hm] at hTx hsh HNN H7
        rw [hfl] at hTx H7 ⊢
        have hyes : mayNot m = true → textN m = s → readN s = some m := fun h1 h2 => by
          unfold readN
          rw [HRF.out]
          dsimp only
          rw [← hm, if_pos ⟨HQ1.out ▸ hq1, HQ2.out ▸ hq2, h1, h2⟩]
        have HM := Lib.hid (And.intro hsh (And.intro hyes (And.intro hq1 hq2)))
        unfold notV at hTx
        have hx7 := H7.out.2.2.1
        unfold notC at hTx hx7
        obtain ⟨x0, x1, x2, x3, x4, x5⟩ := nobox hx7
        clear hx7 hsh hyes hm hfl hq1 hq2
        go_upto_region 9 with (fail)
        go_wp2_with fail
        refine hTx.mono ?_
        rintro e w8 ⟨hp, hb8⟩
        have H8 := Lib.hid (And.intro (H7.out.1.trans (hb8.mono H7.out.1.size)) (And.intro ((hb8.block _ (lt_of_cells H7.out.2.1)).trans H7.out.2.1) (And.intro ((hb8.block _ (lt_of_cells H7.out.2.2.1)).trans H7.out.2.2.1) (H7.out.2.2.2.kept (grownBy_of_below hb8 none) (Classical.em _)))))
        clear hTx hb8 x0 x1 x2 x3 x4 x5
        rcases hp with ⟨hmy, rfl⟩ | ⟨hmy, rfl⟩
        · by_cases hts : textN m = s
          · have hr := HM.out.2.1 hmy hts
            have HR := Lib.hid hr
            obtain ⟨tx, htx⟩ : ∃ tx, tx = textN m := ⟨_, rfl⟩
            rw [← htx] at hts ⊢
            subst hts
            have hx8 := H8.out.2.2.1
            have hz8 := H8.out.2.1
            obtain ⟨W9, hW9⟩ : ∃ W9, W9 = setNot w8 b2 (.int .i64 m.id) (.string ⟨m.host.toArray⟩) (.string ⟨m.dest.toArray⟩) (.string ⟨m.envid.toArray⟩) (.int .i64 m.at_) (.slice pp m.failed.length cc) := ⟨_, rfl⟩
            have hB9 : Below w.heap.size w W9 := by rw [hW9]; exact setNot_below H8.out.1 (by have := HB2.out; omega) _ _ _ _ _ _
            have hown9 := own_setNot H8.out.2.2.2 hz8 (by decide) (.int .i64 m.id) (.string ⟨m.host.toArray⟩) (.string ⟨m.dest.toArray⟩) (.string ⟨m.envid.toArray⟩) (.int .i64 m.at_) (.slice pp m.failed.length cc)
            rw [← hW9] at hown9
            unfold notC noNot at hz8
            dsimp only at hz8
            have hx9 : W9.heap[b2]? = some (.cells #[.int .i64 m.id, .string ⟨m.host.toArray⟩, .string ⟨m.dest.toArray⟩, .string ⟨m.envid.toArray⟩, .int .i64 m.at_, .slice pp m.failed.length cc] 34 (0, 0)) := by rw [hW9]; exact setNot_box hz8 _ _ _ _ _ _
            unfold setNot at hW9
            unfold notC at hx8
            obtain ⟨x0, x1, x2, x3, x4, x5⟩ := nobox hx8
            obtain ⟨z0, z1, z2, z3, z4, z5⟩ := nobox hz8
            have f0 := efroz hz8 0
            have f1 := efroz hz8 1
            have f2 := efroz hz8 2
            have f3 := efroz hz8 3
            have f4 := efroz hz8 4
            have f5 := efroz hz8 5
            have HF := Lib.hid (And.intro hB9 (And.intro hown9 hx9))
            clear hx8 hz8 hB9 hown9 hx9 hmy hr htx
            go_wp2
            rw [← hW9]
            clear hW9 x0 x1 x2 x3 x4 x5 z0 z1 z2 z3 z4 z5 f0 f1 f2 f3 f4 f5
            obtain ⟨hB9, hown9, hx9⟩ := HF.out
            obtain ⟨t0, t1, t2, t3, t4, t5⟩ := nobox hx9
            refine bodyPost_ret (v := .tuple #[notV m (.slice pp m.failed.length cc), .int .i64 0]) (by simp [results, Tryz.results36, go_sem, t0, t1, t2, t3, t4, t5, notV, notC]) rfl ⟨⟨m, _, 0, rfl, own_rowK (k := 3) (enc := flE) (fun _ => rfl) hown9, HM.out.1, .inl ⟨rfl, HR.out⟩⟩, hB9⟩
          · have hno := HNN.out (fun h => hts h.2.2.2)
            obtain ⟨tx, htx⟩ : ∃ tx, tx = textN m := ⟨_, rfl⟩
            rw [← htx] at hts ⊢
            have e1 : (tx == s) = false := by simpa using hts
            have e2 : decide (tx = s) = false := by simpa using hts
            clear hmy htx
            have hz := H8.out.2.1
            unfold notC noNot at hz
            dsimp only at hz
            obtain ⟨z0, z1, z2, z3, z4, z5⟩ := nobox hz
            have s0 := setCell_id (W := w8) (off := 0) (v := .int .i64 0) hz rfl
            have f0 := efroz hz 0
            have s1 := setCell_id (W := w8) (off := 1) (v := .string ⟨#[]⟩) hz rfl
            have f1 := efroz hz 1
            have s2 := setCell_id (W := w8) (off := 2) (v := .string ⟨#[]⟩) hz rfl
            have f2 := efroz hz 2
            have s3 := setCell_id (W := w8) (off := 3) (v := .string ⟨#[]⟩) hz rfl
            have f3 := efroz hz 3
            have s4 := setCell_id (W := w8) (off := 4) (v := .int .i64 0) hz rfl
            have f4 := efroz hz 4
            have s5 := setCell_id (W := w8) (off := 5) (v := .slice none 0 0) hz rfl
            have f5 := efroz hz 5
            have HFIN := Lib.hid H8.out.1
            have HWHY := Lib.hid hno
            clear hz hno
            go_wp2
            (try rw [s0, s1, s2, s3, s4, s5])
            refine bodyPost_ret (v := .tuple #[notV noNot (.slice none 0 0), .int .i64 4]) (by simp [results, Tryz.results36, go_sem, z0, z1, z2, z3, z4, z5, notV, notC, noNot]) rfl ⟨⟨noNot, _, 4, rfl, noRow _, noShort, .inr ⟨rfl, HWHY.out⟩⟩, HFIN.out⟩
        · have hno := HNN.out (fun h => by rw [hmy] at h; exact absurd h.2.2.1 (by decide))
          clear hmy
          have hz := H8.out.2.1
          unfold notC noNot at hz
          dsimp only at hz
          obtain ⟨z0, z1, z2, z3, z4, z5⟩ := nobox hz
          have s0 := setCell_id (W := w8) (off := 0) (v := .int .i64 0) hz rfl
          have f0 := efroz hz 0
          have s1 := setCell_id (W := w8) (off := 1) (v := .string ⟨#[]⟩) hz rfl
          have f1 := efroz hz 1
          have s2 := setCell_id (W := w8) (off := 2) (v := .string ⟨#[]⟩) hz rfl
          have f2 := efroz hz 2
          have s3 := setCell_id (W := w8) (off := 3) (v := .string ⟨#[]⟩) hz rfl
          have f3 := efroz hz 3
          have s4 := setCell_id (W := w8) (off := 4) (v := .int .i64 0) hz rfl
          have f4 := efroz hz 4
          have s5 := setCell_id (W := w8) (off := 5) (v := .slice none 0 0) hz rfl
          have f5 := efroz hz 5
          have HFIN := Lib.hid H8.out.1
          have HWHY := Lib.hid hno
          clear hz hno
          go_wp2
          (try rw [s0, s1, s2, s3, s4, s5])
          refine bodyPost_ret (v := .tuple #[notV noNot (.slice none 0 0), .int .i64 4]) (by simp [results, Tryz.results36, go_sem, z0, z1, z2, z3, z4, z5, notV, notC, noNot]) rfl ⟨⟨noNot, _, 4, rfl, noRow _, noShort, .inr ⟨rfl, HWHY.out⟩⟩, HFIN.out⟩
      · have hno := HNN.out (fun h => hq2 h.2.1)
        rw [hq1]
        have e1 : ((q2.2 : Int) == 0) = false := by simpa using hq2
        have e2 : decide ((q2.2 : Int) = 0) = false := by simpa using hq2
        have e3 : decide (q2.2 = 0) = false := by simpa using hq2
        clear hq1 hq2
        have hz := H7.out.2.1
        unfold notC noNot at hz
        dsimp only at hz
        obtain ⟨z0, z1, z2, z3, z4, z5⟩ := nobox hz
        have s0 := setCell_id (W := W7) (off := 0) (v := .int .i64 0) hz rfl
        have f0 := efroz hz 0
        have s1 := setCell_id (W := W7) (off := 1) (v := .string ⟨#[]⟩) hz rfl
        have f1 := efroz hz 1
        have s2 := setCell_id (W := W7) (off := 2) (v := .string ⟨#[]⟩) hz rfl
        have f2 := efroz hz 2
        have s3 := setCell_id (W := W7) (off := 3) (v := .string ⟨#[]⟩) hz rfl
        have f3 := efroz hz 3
        have s4 := setCell_id (W := W7) (off := 4) (v := .int .i64 0) hz rfl
        have f4 := efroz hz 4
        have s5 := setCell_id (W := W7) (off := 5) (v := .slice none 0 0) hz rfl
        have f5 := efroz hz 5
        have HFIN := Lib.hid H7.out.1
        have HWHY := Lib.hid hno
        clear hz hno
        go_wp2
        (try rw [s0, s1, s2, s3, s4, s5])
        refine bodyPost_ret (v := .tuple #[notV noNot (.slice none 0 0), .int .i64 4]) (by simp [results, Tryz.results36, go_sem, z0, z1, z2, z3, z4, z5, notV, notC, noNot]) rfl ⟨⟨noNot, _, 4, rfl, noRow _, noShort, .inr ⟨rfl, HWHY.out⟩⟩, HFIN.out⟩
    · have hno := HNN.out (fun h => hq1 h.1)
      have e1 : ((q1.2 : Int) == 0) = false := by simpa using hq1
      have e2 : decide ((q1.2 : Int) = 0) = false := by simpa using hq1
      have e3 : decide (q1.2 = 0) = false := by simpa using hq1
      clear hq1
      have hz := H7.out.2.1
      unfold notC noNot at hz
      dsimp only at hz
      obtain ⟨z0, z1, z2, z3, z4, z5⟩ := nobox hz
      have s0 := setCell_id (W := W7) (off := 0) (v := .int .i64 0) hz rfl
      have f0 := efroz hz 0
      have s1 := setCell_id (W := W7) (off := 1) (v := .string ⟨#[]⟩) hz rfl
      have f1 := efroz hz 1
      have s2 := setCell_id (W := W7) (off := 2) (v := .string ⟨#[]⟩) hz rfl
      have f2 := efroz hz 2
      have s3 := setCell_id (W := W7) (off := 3) (v := .string ⟨#[]⟩) hz rfl
      have f3 := efroz hz 3
      have s4 := setCell_id (W := W7) (off := 4) (v := .int .i64 0) hz rfl
      have f4 := efroz hz 4
      have s5 := setCell_id (W := W7) (off := 5) (v := .slice none 0 0) hz rfl
      have f5 := efroz hz 5
      have HFIN := Lib.hid H7.out.1
      have HWHY := Lib.hid hno
      clear hz hno
      go_wp2
      (try rw [s0, s1, s2, s3, s4, s5])
      refine bodyPost_ret (v := .tuple #[notV noNot (.slice none 0 0), .int .i64 4]) (by simp [results, Tryz.results36, go_sem, z0, z1, z2, z3, z4, z5, notV, notC, noNot]) rfl ⟨⟨noNot, _, 4, rfl, noRow _, noShort, .inr ⟨rfl, HWHY.out⟩⟩, HFIN.out⟩
end Go.Proofs.YtlpngibdplnieaaGreatDoor
