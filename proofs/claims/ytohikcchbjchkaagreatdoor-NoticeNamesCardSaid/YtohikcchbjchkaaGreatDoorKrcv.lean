/- The deferred function that recovers. -/
import Derived.Test.YtohikcchbjchkaaGreatDoorProg
import Derived.Test.YtohikcchbjchkaaGreatDoorKee
import Derived.Tactics
import Derived.Tactics2
import Derived.Defers
import Derived.Recover
import Derived.Laws.Pointers
import Derived.TacticsInMore
import Derived.RegionIn
import Derived.RecoverIn
import Derived.WalkLawsBesides
namespace Go.Proofs.YtohikcchbjchkaaGreatDoor
open Go Sx

theorem left_alloc (w : World) (o : Obj) : Left' w (w.alloc o) :=
  ⟨⟨rfl, rfl⟩, by show w.heap.size ≤ (w.heap.push o).size; simp, fun b hb => by show (w.heap.push o)[b]? = _; rw [Array.getElem?_push, if_neg (by omega)]⟩
theorem block_alloc {w : World} {p : Addr} {v : Value} (h : w.cell? p = some v) (o : Obj) : (w.alloc o).heap[p.block]? = w.heap[p.block]? := by
  have hlt : p.block < w.heap.size := by
    unfold World.cell? at h
    cases hb : w.heap[p.block]? with
    | none => rw [hb] at h; cases h
    | some o => exact (Array.getElem?_eq_some_iff.1 hb).1
  exact (left_alloc w o).2.2 _ hlt
theorem left_set {w : World} {p : Addr} (o : Obj) (u : Value) : Left' (w.setCell p u) ((w.alloc o).setCell p u) := by
  refine ⟨⟨rfl, rfl⟩, ?_, fun b hb => ?_⟩
  · show (w.heap.modify _ _).size ≤ ((w.heap.push o).modify _ _).size
    rw [Array.size_modify, Array.size_modify, Array.size_push]; omega
  · have hb' : b < w.heap.size := by simpa [World.setCell] using hb
    have e := (left_alloc w o).2.2 b hb'
    simp only [World.setCell] at e ⊢
    rw [Array.getElem?_modify, Array.getElem?_modify]
    rw [e]

set_option maxRecDepth 100000
theorem rcv_any : Rcv Tryz.prog 70 128 := by
  intro p b w hc
  have hn : ∀ (x : TypeId) (w : World), (Instr.typeAssert .nilIface x 128 true).run Tryz.prog w = .ok (.tuple #[.agg #[], .bool false]) w := fun x w => by kernel_rfl
  have hy : ∀ (x : TypeId) (w : World), (Instr.typeAssert (.iface 128 (.agg #[])) x 128 true).run Tryz.prog w = .ok (.tuple #[.agg #[], .bool true]) w := fun x w => by kernel_rfl
  refine ⟨callFunc_enter Tryz.func70 (by kernel_rfl) rfl _ _, ?_, fun hz => ?_⟩
  · refine callsDIn_of_wpSIn Tryz.func70 rfl trivial fun c₀ cs hu => ?_
    apply wpSIn_seq
    apply wpSIn_region
    simp [wpOpsSIn, go_sem, recoverD, hu, Tryz.ntmps70, Exit.thenS, hn]
    apply wpSIn_seq
    apply wpSIn_region
    simp [wpOpsSIn, go_sem, Exit.thenS]
    refine wpSIn_cond (t := false) (by simp [Act.eval, Array.replicate]) ?_
    simp only [Bool.false_eq_true, if_false]
    refine wpSIn_of_wpIn rfl (wpIn_skip ?_)
    have hl := left_alloc w (Obj.cells #[] 128)
    cases c₀
    simp_all [bodyPostS, results, Tryz.results70]
  · refine callsDIn_of_wpSIn Tryz.func70 rfl trivial fun c₀ cs hu => ?_
    apply wpSIn_seq
    apply wpSIn_region
    simp [wpOpsSIn, go_sem, recoverD, hu, Tryz.ntmps70, Exit.thenS, hy]
    have hc' : (w.alloc (Obj.cells #[] 128)).cell? p = some (.bool b) := by
      unfold World.cell? at hc ⊢
      rw [block_alloc (by unfold World.cell?; exact hc)]; exact hc
    have hz' : (w.alloc (Obj.cells #[] 128)).frozen? p = false := by
      unfold World.frozen? at hz ⊢
      rw [block_alloc hc]; exact hz
    have hl := left_set (w := w) (p := p) (Obj.cells #[] 128) (.bool false)
    apply wpSIn_seq
    apply wpSIn_region
    simp [wpOpsSIn, go_sem, Exit.thenS]
    refine wpSIn_cond (t := true) (by simp [Act.eval, Array.replicate]) ?_
    simp only [if_true]
    apply wpSIn_region
    simp [wpOpsSIn, go_sem, hc', hz', bodyPostS, results, Tryz.results70]
    exact hl
end Go.Proofs.YtohikcchbjchkaaGreatDoor
