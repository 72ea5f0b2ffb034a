/- entry.Bad. -/
import Derived.Test.YtdlpdpelhkgnlaaGreatDoorMd
namespace Go.Proofs.YtdlpdpelhkgnlaaGreatDoor
open Go Go.RowKit Go.Shelf Go.Sort
attribute [local go_sem] bneI

theorem enterBad : ∀ args w, (callFunc 72 args).run Tryz.prog w = .ok (.enter 72 args) w := enters_of Tryz.func72 (by kernel_rfl) rfl
set_option maxRecDepth 100000 in
set_option maxHeartbeats 1000000 in
theorem bad1_any (r : RcP) (f : FaP) (w : World) :
    Calls Tryz.prog 72 (#[.agg (rcE r).toArray, .agg (faE f).toArray] ++ #[]) w fun e w' => e = .returned (.bool (badOf r f)) ∧ Below w.heap.size w w' := by
  obtain ⟨t, nv⟩ := r
  obtain ⟨st, tx⟩ := f
  unfold rcE faE
  dsimp only
  have hB : Below w.heap.size w ((w.alloc (.cells #[.string ⟨t.toArray⟩, .bool nv] 57)).alloc (.cells #[.int .u8 (st : Int), .string ⟨tx.toArray⟩] 42)) := ((Below.refl _ _).alloc (Nat.le_refl _) _).alloc (by simp) _
  have HB := Lib.hid hB
  clear hB
  by_cases h0 : st = 2
  · subst h0
    have hw : badOf (t, nv) (2, tx) = !nv := by simp [badOf]
    rw [hw]
    clear hw
    show Calls Tryz.prog 72 #[.agg #[.string ⟨t.toArray⟩, .bool nv], .agg #[.int .u8 ((2 : Nat) : Int), .string ⟨tx.toArray⟩]] w _
    go_enter Tryz.func72, Tryz.ntmps72
    go_wp2
    refine bodyPost_ret (v := .bool (!nv)) (by simp [results, Tryz.results72, go_sem]) rfl ⟨rfl, HB.out⟩
  · have hw : badOf (t, nv) (st, tx) = false := by simp [badOf, h0]
    have e1 : ((st : Int) == 2) = false := by simp; omega
    have e2 : ¬ (st : Int) = 2 := by omega
    have e3 : decide ((st : Int) = 2) = false := by simp; omega
    rw [hw]
    clear hw h0
    show Calls Tryz.prog 72 #[.agg #[.string ⟨t.toArray⟩, .bool nv], .agg #[.int .u8 (st : Int), .string ⟨tx.toArray⟩]] w _
    go_enter Tryz.func72, Tryz.ntmps72
    go_wp2
    refine bodyPost_ret (v := .bool false) (by simp [results, Tryz.results72, go_sem]) rfl ⟨rfl, HB.out⟩
/-- The recipients that failed, and of whom that is to be told. -/
def badM (x : EntP) : List Nat := plcM badOf x
set_option maxRecDepth 100000 in
set_option maxHeartbeats 2000000 in
theorem bad_any (x : EntP) (sv fv jv : Value) (w : World) (hx : EntAt w x sv fv jv) (hs : ShortE x) :
    Calls Tryz.prog 24 #[entV x sv fv jv] w fun e w' => IdxPost w (badM x) e w' ∧ Below w.heap.size w w' := by
  obtain ⟨p, c, rfl, -⟩ := hx.rc.sh
  obtain ⟨q, dd, rfl, -⟩ := hx.fa.sh
  obtain ⟨r, rr, rfl, -⟩ := hx.jo.sh
  obtain ⟨W1, hW1⟩ : ∃ W1, W1 = (w.alloc (.cells (entC x (.slice p x.mail.rcpts.length c) (.slice q x.fates.length dd) (.slice r x.jobs.length rr)).toArray 32)) := ⟨_, rfl⟩
  have hB1 : Below w.heap.size w W1 := by rw [hW1]; exact (Below.refl _ w).alloc (Nat.le_refl _) _
  have hb1 : W1.heap[w.heap.size]? = some (.cells (entC x (.slice p x.mail.rcpts.length c) (.slice q x.fates.length dd) (.slice r x.jobs.length rr)).toArray 32 (0, 0)) := by rw [hW1]; exact ha_eq rfl
  have hPl := places_any 72 enterBad #[] badOf x _ _ _ W1 (hx.below hB1) hs fun r _ f _ W _ => bad1_any r f W
  have HA := Lib.hid hB1
  unfold entV at hPl ⊢
  unfold entC at hW1 hb1 hPl ⊢
  obtain ⟨x0, x1, x2, x3, x4, x5, x6, x7, x8, x9⟩ := eboxAll hb1
  clear hx hs hB1 hb1
  go_enter Tryz.func24, Tryz.ntmps24
  go_upto_region 1 with (fail)
  rw [← hW1]
  clear hW1
  go_wp2_with fail
  refine hPl.mono ?_
  rintro e w2 ⟨⟨v, rfl, ho⟩, hB2⟩
  have HZ := Lib.hid (And.intro (ownsRow_less ho (show w.heap.size + 1 ≤ W1.heap.size + 1 by have := HA.out.size; omega)) (HA.out.trans (hB2.mono HA.out.size)))
  clear hPl ho hB2 x0 x1 x2 x3 x4 x5 x6 x7 x8 x9
  go_wp2
  refine bodyPost_ret (v := v) (by simp [results, Tryz.results24, go_sem]) rfl ⟨⟨_, rfl, HZ.out.1⟩, HZ.out.2⟩
end Go.Proofs.YtdlpdpelhkgnlaaGreatDoor
