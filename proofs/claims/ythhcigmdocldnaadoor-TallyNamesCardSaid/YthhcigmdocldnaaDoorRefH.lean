/- The program's Copy of a tally. -/
import Derived.Test.YthhcigmdocldnaaDoorRefG
import Derived.Laws.Externs
namespace Go.Proofs.YthhcigmdocldnaaDoor
open Go Go.RowKit Go.Shelf Go.Sort

set_option maxRecDepth 100000 in
theorem clone_any (bm : Nat) (l : Ent) (w : World) (h : MapAt w bm eK eV l) :
    Calls Tryd.prog 44 #[.map (some bm)] w fun e w' => e = .returned (.map (some w.heap.size)) ∧ MapAt w' w.heap.size eK eV l ∧ w'.heap.size = w.heap.size + 1 ∧ Below w.heap.size w w' := by
  obtain ⟨o, hrun, hmap⟩ := run_clone_at (P := Tryd.prog) h 72
  have HM := Lib.hid hmap
  clear h hmap
  go_enter Tryd.func44, Tryd.ntmps44
  have hnil : ∀ w : World, (binOp .eql 72 (.map (some bm)) (.map none)).run Tryd.prog w = .ok (.bool false) w := fun w => by rfl
  have hcall : (callFunc 65 #[.iface 72 (.map (some bm))]).run Tryd.prog w = .ok (.value (.iface 72 (.map (some w.heap.size)))) (w.alloc o) := by
    rw [run_callFunc_extern Tryd.func65 (by decide +kernel) (e := Extern.MapsClone.clone) (by kernel_rfl) (by kernel_rfl) (by kernel_rfl), hrun]
    rfl
  have hta : ∀ (w : World) (k : Nat), (Instr.typeAssert (.iface 72 (.map (some k))) 20 72 false).run Tryd.prog w = .ok (.map (some k)) w := fun w k => by rfl
  go_wp2
  refine bodyPost_ret (v := .map (some w.heap.size)) (by simp [results, Tryd.results44, go_sem]) rfl ⟨rfl, HM.out, by simp, (Below.refl _ w).alloc (Nat.le_refl _) _⟩

set_option maxRecDepth 100000 in
set_option maxHeartbeats 1000000 in
theorem copyT_any (b bm : Nat) (names : Int) (l : Ent) (w : World) (h : TallyAt w b bm names l) :
    Calls Tryd.prog 21 #[.pointer (some ⟨b, 0, none⟩)] w fun e w' => ∃ b2 bm2, e = .returned (.pointer (some ⟨b2, 0, none⟩)) ∧ w.heap.size ≤ bm2 ∧ bm2 < b2 ∧ TallyAt w' b2 bm2 names l ∧ Below w.heap.size w w' := by
  obtain ⟨c0, c1⟩ := h.obj
  have hbl := h.lt
  have hC := clone_any bm l w.drew (h.2.of_block rfl)
  have hbl' : ∀ j, (⟨b, j, none⟩ : Addr).block < w.drew.heap.size := fun _ => hbl
  have hdr : w.drew.heap.size = w.heap.size := rfl
  have HT := Lib.hid h
  clear h
  go_enter Tryd.func21, Tryd.ntmps21
  go_wp2_with fail
  go_region_held3 (fun w' => w'.cell? ⟨b, 0, none⟩ = some (.int .i64 names) ∧ w'.cell? ⟨b, 1, none⟩ = some (.map (some bm))) (first | go_keep | (exact ⟨k0, k1⟩) | (exact ⟨n0 _, n1 _⟩))
    ((go_at_call 44; refine hC.mono ?_; rintro e w5 ⟨rfl, hM5, hs5, hB5⟩; have k0 := (hB5.cell (p := ⟨b, 0, none⟩) hbl).trans c0; have k1 := (hB5.cell (p := ⟨b, 1, none⟩) hbl).trans c1; have n0 := fun o => (World.cell?_of_block (ha_ne (w := w5) (o := o) (k := b) (by omega))).trans k0; have n1 := fun o => (World.cell?_of_block (ha_ne (w := w5) (o := o) (k := b) (by omega))).trans k1))
  have hT : TallyAt (w5.alloc (.cells #[.int .i64 names, .map (some w.heap.size)] 74)) (w.heap.size + 1) w.heap.size names l := ⟨ha_eq (by omega), mapAt_alloc hM5⟩
  have hB : Below w.heap.size w (w5.alloc (.cells #[.int .i64 names, .map (some w.heap.size)] 74)) := (((Below.refl _ w).drew).trans (show Below w.heap.size w.drew w5 from hB5)).alloc (by omega) _
  have HF := Lib.hid (And.intro hT hB)
  clear hT hB hM5 hB5 k0 k1 n0 n1 hC
  go_wp2
  refine bodyPost_ret (v := .pointer (some ⟨w.heap.size + 1, 0, none⟩)) (by simp [results, Tryd.results21, go_sem]) rfl ⟨w.heap.size + 1, w.heap.size, rfl, Nat.le_refl _, by omega, HF.out.1, HF.out.2⟩
end Go.Proofs.YthhcigmdocldnaaDoor
