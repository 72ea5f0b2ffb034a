/- Nobody's cache; the copy of a cache. -/
import Derived.Test.YtojhledbfaninaaGreatCall
import Derived.Laws.Externs
namespace Go.Proofs.YtojhledbfaninaaGreat
open Go Go.RowKit Go.Shelf Go.Sort
attribute [local go_sem] bneI

set_option maxRecDepth 100000 in
theorem of_nil (d : ByteArray) (now : Int) (w : World) : Calls Tryz.prog 19 #[.pointer none, .string d, .int .i64 now] w fun e w' => e = .returned (.tuple #[evp zeroM, .bool false]) ∧ Below w.heap.size w w' := by
  go_enter Tryz.func19, Tryz.ntmps19
  go_wp2
  refine bodyPost_ret (v := .tuple #[evp zeroM, .bool false]) (by simp [results, Tryz.results19, go_sem]; rfl) rfl ⟨rfl, ?_⟩
  repeat (first | exact (Below.refl _ w).alloc (Nat.le_refl _) _ | refine Below.setCell ?_ (by simp) _)
set_option maxRecDepth 100000 in
theorem learn_nil (d i : ByteArray) (m : Int) (hh : SH) (age now : Int) (w : World) : Calls Tryz.prog 11 #[.pointer none, .string d, .string i, .agg #[.int .u8 m, .slice hh.1 hh.2.1 hh.2.2, .int .i64 age], .int .i64 now] w fun e w' => e = .returned (.int .i64 2) ∧ Below w.heap.size w w' := by
  go_enter Tryz.func11, Tryz.ntmps11
  go_wp2
  refine bodyPost_ret (v := .int .i64 2) (by simp [results, Tryz.results11, go_sem]) rfl ⟨rfl, ?_⟩
  exact (((Below.refl _ w).alloc (Nat.le_refl _) _).alloc (by simp) _).alloc (by simp; omega) _
set_option maxRecDepth 100000 in
theorem all_nil (w : World) : Calls Tryz.prog 15 #[.pointer none] w fun e w' => e = .returned (.slice none 0 0) ∧ w = w' := by
  go_enter Tryz.func15, Tryz.ntmps15
  go_wp2
  refine bodyPost_ret (v := .slice none 0 0) (by simp [results, Tryz.results15, go_sem]) rfl ⟨rfl, rfl⟩
set_option maxRecDepth 100000 in
theorem copy_nil (w : World) : Calls Tryz.prog 8 #[.pointer none] w fun e w' => e = .returned (.pointer none) ∧ w = w' := by
  go_enter Tryz.func8, Tryz.ntmps8
  go_wp2
  refine bodyPost_ret (v := .pointer none) (by simp [results, Tryz.results8, go_sem]) rfl ⟨rfl, rfl⟩

set_option maxRecDepth 100000 in
theorem cloneE_any (bm : Nat) (l : CM) (w : World) (h : MapAt w bm str evp l) :
    Calls Tryz.prog 20 #[.map (some bm)] w fun e w' => e = .returned (.map (some w.heap.size)) ∧ MapAt w' w.heap.size str evp l ∧ w'.heap.size = w.heap.size + 1 ∧ Below w.heap.size w w' := by
  obtain ⟨o, hrun, hmap⟩ := run_clone_at (P := Tryz.prog) h 55
  have HM := Lib.hid hmap
  clear h hmap
  go_enter Tryz.func20, Tryz.ntmps20
  have hnil : ∀ w : World, (binOp .eql 55 (.map (some bm)) (.map none)).run Tryz.prog w = .ok (.bool false) w := fun w => by rfl
  have hcall : (callFunc 35 #[.iface 55 (.map (some bm))]).run Tryz.prog w = .ok (.value (.iface 55 (.map (some w.heap.size)))) (w.alloc o) := by
    rw [run_callFunc_extern Tryz.func35 (by decide +kernel) (e := Extern.MapsClone.clone) (by kernel_rfl) (by kernel_rfl) (by kernel_rfl), hrun]
    rfl
  have hta : ∀ (w : World) (k : Nat), (Instr.typeAssert (.iface 55 (.map (some k))) 20 55 false).run Tryz.prog w = .ok (.map (some k)) w := fun w k => by rfl
  go_wp2
  refine bodyPost_ret (v := .map (some w.heap.size)) (by simp [results, Tryz.results20, go_sem]) rfl ⟨rfl, HM.out, by simp, (Below.refl _ w).alloc (Nat.le_refl _) _⟩

set_option maxRecDepth 100000 in
set_option maxHeartbeats 1000000 in
theorem copyC_any (b bm : Nat) (most : Int) (B : Nat → Prop) (L : List PE) (w : World) (h : CacheIs w B b bm most L) :
    Calls Tryz.prog 8 #[.pointer (some ⟨b, 0, none⟩)] w fun e w' => ∃ b2 bm2, e = .returned (.pointer (some ⟨b2, 0, none⟩)) ∧ w.heap.size ≤ bm2 ∧ bm2 < b2 ∧ CacheIs w' B b2 bm2 most L ∧ Below w.heap.size w w' := by
  obtain ⟨l, h, hE⟩ := h
  obtain ⟨c0, c1⟩ := h.cells
  have hbl := h.lt
  have hC := cloneE_any bm l w.drew (h.map.of_block rfl)
  have hbl' : ∀ j, (⟨b, j, none⟩ : Addr).block < w.drew.heap.size := fun _ => hbl
  have hdr : w.drew.heap.size = w.heap.size := rfl
  have HT := Lib.hid h
  clear h
  go_enter Tryz.func8, Tryz.ntmps8
  go_wp2_with fail
  go_region_held3 (fun w' => w'.cell? ⟨b, 0, none⟩ = some (.int .i64 most) ∧ w'.cell? ⟨b, 1, none⟩ = some (.map (some bm))) (first | go_keep | (exact ⟨k0, k1⟩) | (exact ⟨n0 _, n1 _⟩))
    ((go_at_call 20; refine hC.mono ?_; rintro e w5 ⟨rfl, hM5, hs5, hB5⟩; have k0 := (hB5.cell (p := ⟨b, 0, none⟩) hbl).trans c0; have k1 := (hB5.cell (p := ⟨b, 1, none⟩) hbl).trans c1; have n0 := fun o => (World.cell?_of_block (ha_ne (w := w5) (o := o) (k := b) (by omega))).trans k0; have n1 := fun o => (World.cell?_of_block (ha_ne (w := w5) (o := o) (k := b) (by omega))).trans k1))
  have hB : Below w.heap.size w (w5.alloc (.cells #[.int .i64 most, .map (some w.heap.size)] 57)) := (((Below.refl _ w).drew).trans (show Below w.heap.size w.drew w5 from hB5)).alloc (by omega) _
  have hT : CacheIs (w5.alloc (.cells #[.int .i64 most, .map (some w.heap.size)] 57)) B (w.heap.size + 1) w.heap.size most L :=
    ⟨l, ⟨ha_eq (by omega), hM5.of_block (ha_ne (Nat.ne_of_lt hM5.lt)), HT.out.key, fun q hq => (HT.out.mxs q hq).below hB⟩, hE⟩
  have HF := Lib.hid (And.intro hT hB)
  clear hT hB hM5 hB5 k0 k1 n0 n1 hC hE
  go_wp2
  refine bodyPost_ret (v := .pointer (some ⟨w.heap.size + 1, 0, none⟩)) (by simp [results, Tryz.results8, go_sem]) rfl ⟨w.heap.size + 1, w.heap.size, rfl, Nat.le_refl _, by omega, HF.out.1, HF.out.2⟩
end Go.Proofs.YtojhledbfaninaaGreat
