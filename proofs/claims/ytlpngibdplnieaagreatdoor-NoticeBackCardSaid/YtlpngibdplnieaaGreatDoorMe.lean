/- Parts of the proof, joined: Ebad, Esm, Ecopy, Ehead, Ecut. -/
import Derived.Test.YtlpngibdplnieaaGreatDoorMd
import Derived.Deep.RegionWith
import Derived.Test.YtlpngibdplnieaaGreatDoorMb
import Derived.Test.YtlpngibdplnieaaGreatDoorMc
import Derived.TacticsInMore
/- entry.Bad. -/
namespace Go.Proofs.YtlpngibdplnieaaGreatDoor
open Go Go.RowKit Go.Shelf Go.Sort
attribute [local go_sem] bneI

theorem enterBad : ∀ args w, (callFunc 52 args).run Tryz.prog w = .ok (.enter 52 args) w := enters_of Tryz.func52 (by kernel_rfl) rfl
set_option maxRecDepth 100000 in
set_option maxHeartbeats 1000000 in
theorem bad1_any (r : RcP) (f : FaP) (w : World) :
    Calls Tryz.prog 52 (#[.agg (rcE r).toArray, .agg (faE f).toArray] ++ #[]) w fun e w' => e = .returned (.bool (badOf r f)) ∧ Below w.heap.size w w' := by
  obtain ⟨t, nv⟩ := r
  obtain ⟨st, tx⟩ := f
  unfold rcE faE
  dsimp only
  have hB : Below w.heap.size w ((w.alloc (.cells #[.string ⟨t.toArray⟩, .bool nv] 57)).alloc (.cells #[.int .u8 (st : Int), .string ⟨tx.toArray⟩] 61)) := ((Below.refl _ _).alloc (Nat.le_refl _) _).alloc (by simp) _
  have HB := Lib.hid hB
  clear hB
  by_cases h0 : st = 2
  · subst h0
    have hw : badOf (t, nv) (2, tx) = !nv := by simp [badOf]
    rw [hw]
    clear hw
    show Calls Tryz.prog 52 #[.agg #[.string ⟨t.toArray⟩, .bool nv], .agg #[.int .u8 ((2 : Nat) : Int), .string ⟨tx.toArray⟩]] w _
    go_enter Tryz.func52, Tryz.ntmps52
    go_wp2
    refine bodyPost_ret (v := .bool (!nv)) (by simp [results, Tryz.results52, go_sem]) rfl ⟨rfl, HB.out⟩
  · have hw : badOf (t, nv) (st, tx) = false := by simp [badOf, h0]
    have e1 : ((st : Int) == 2) = false := by simp; omega
    have e2 : ¬ (st : Int) = 2 := by omega
    have e3 : decide ((st : Int) = 2) = false := by simp; omega
    rw [hw]
    clear hw h0
    show Calls Tryz.prog 52 #[.agg #[.string ⟨t.toArray⟩, .bool nv], .agg #[.int .u8 (st : Int), .string ⟨tx.toArray⟩]] w _
    go_enter Tryz.func52, Tryz.ntmps52
    go_wp2
    refine bodyPost_ret (v := .bool false) (by simp [results, Tryz.results52, go_sem]) rfl ⟨rfl, HB.out⟩
/-- The recipients that failed, and of whom that is to be told. -/
def badM (x : EntP) : List Nat := plcM badOf x
set_option maxRecDepth 100000 in
set_option maxHeartbeats 2000000 in
theorem bad_any (x : EntP) (sv fv jv : Value) (w : World) (hx : EntAt w x sv fv jv) (hs : ShortE x) :
    Calls Tryz.prog 21 #[entV x sv fv jv] w fun e w' => IdxPost w (badM x) e w' ∧ Below w.heap.size w w' := by
  obtain ⟨p, c, rfl, -⟩ := hx.rc.sh
  obtain ⟨q, dd, rfl, -⟩ := hx.fa.sh
  obtain ⟨r, rr, rfl, -⟩ := hx.jo.sh
  obtain ⟨W1, hW1⟩ : ∃ W1, W1 = (w.alloc (.cells (entC x (.slice p x.mail.rcpts.length c) (.slice q x.fates.length dd) (.slice r x.jobs.length rr)).toArray 28)) := ⟨_, rfl⟩
  have hB1 : Below w.heap.size w W1 := by rw [hW1]; exact (Below.refl _ w).alloc (Nat.le_refl _) _
  have hb1 : W1.heap[w.heap.size]? = some (.cells (entC x (.slice p x.mail.rcpts.length c) (.slice q x.fates.length dd) (.slice r x.jobs.length rr)).toArray 28 (0, 0)) := by rw [hW1]; exact ha_eq rfl
  have hPl := places_any 52 enterBad #[] badOf x _ _ _ W1 (hx.below hB1) hs fun r _ f _ W _ => bad1_any r f W
  have HA := Lib.hid hB1
  unfold entV at hPl ⊢
  unfold entC at hW1 hb1 hPl ⊢
  obtain ⟨x0, x1, x2, x3, x4, x5, x6, x7, x8, x9⟩ := eboxAll hb1
  clear hx hs hB1 hb1
  go_enter Tryz.func21, Tryz.ntmps21
  go_upto_region 1 with (fail)
  rw [← hW1]
  clear hW1
  go_wp2_with fail
  refine hPl.mono ?_
  rintro e w2 ⟨⟨v, rfl, ho⟩, hB2⟩
  have HZ := Lib.hid (And.intro (ownsRow_less ho (show w.heap.size + 1 ≤ W1.heap.size + 1 by have := HA.out.size; omega)) (HA.out.trans (hB2.mono HA.out.size)))
  clear hPl ho hB2 x0 x1 x2 x3 x4 x5 x6 x7 x8 x9
  go_wp2
  refine bodyPost_ret (v := v) (by simp [results, Tryz.results21, go_sem]) rfl ⟨⟨_, rfl, HZ.out.1⟩, HZ.out.2⟩
end Go.Proofs.YtlpngibdplnieaaGreatDoor

/- entry.stands, clock. -/
namespace Go.Proofs.YtlpngibdplnieaaGreatDoor
open Go Go.RowKit Go.Shelf Go.Sort
attribute [local go_sem] bneI

def standsB (c : UInt8) : Bool := decide (32 ≤ c.toNat) && decide (c.toNat ≤ 126)
def clockB (n : Int) : Bool := decide (0 ≤ n) && decide (n ≤ 1099511627776)
set_option maxRecDepth 100000 in
theorem stands_any (c : UInt8) (w : World) : Calls Tryz.prog 132 #[.int .u8 (c.toNat : Int)] w fun e w' => e = .returned (.bool (standsB c)) ∧ Below w.heap.size w w' := by
  by_cases h1 : 32 ≤ c.toNat
  · by_cases h2 : c.toNat ≤ 126
    · have hs : standsB c = true := by simp [standsB, h1, h2]
      have e1 : (32 : Int) ≤ (c.toNat : Int) := by omega
      have e2 : (c.toNat : Int) ≤ 126 := by omega
      rw [hs]
      clear hs h1 h2
      go_enter Tryz.func132, Tryz.ntmps132
      go_wp2
      refine bodyPost_ret (v := .bool true) (by simp [results, Tryz.results132, go_sem]) rfl ⟨rfl, Below.refl _ _⟩
    · have hs : standsB c = false := by simp [standsB]; omega
      have e1 : (32 : Int) ≤ (c.toNat : Int) := by omega
      have e2 : ¬ (c.toNat : Int) ≤ 126 := by omega
      rw [hs]
      clear hs h1 h2
      go_enter Tryz.func132, Tryz.ntmps132
      go_wp2
      refine bodyPost_ret (v := .bool false) (by simp [results, Tryz.results132, go_sem]) rfl ⟨rfl, Below.refl _ _⟩
  · have hs : standsB c = false := by simp [standsB, h1]
    have e1 : ¬ (32 : Int) ≤ (c.toNat : Int) := by omega
    rw [hs]
    clear hs h1
    go_enter Tryz.func132, Tryz.ntmps132
    go_wp2
    refine bodyPost_ret (v := .bool false) (by simp [results, Tryz.results132, go_sem]) rfl ⟨rfl, Below.refl _ _⟩
set_option maxRecDepth 100000 in
theorem word1_any (c : UInt8) (w : World) : Calls Tryz.prog 131 #[.int .u8 (c.toNat : Int)] w fun e w' => e = .returned (.bool (!standsB c)) ∧ Below w.heap.size w w' := by
  have hS := stands_any c w
  go_enter Tryz.func131, Tryz.ntmps131
  go_wp2_with fail
  refine hS.mono ?_
  rintro e w1 ⟨rfl, hB⟩
  have HB := Lib.hid hB
  clear hS hB
  go_wp2
  refine bodyPost_ret (v := .bool (!standsB c)) (by simp [results, Tryz.results131, go_sem]) rfl ⟨rfl, HB.out⟩
set_option maxRecDepth 100000 in
theorem clock_any (n : Int) (w : World) : Calls Tryz.prog 53 #[.int .i64 n] w fun e w' => e = .returned (.bool (clockB n)) ∧ Below w.heap.size w w' := by
  by_cases e1 : (0 : Int) ≤ n
  · by_cases e2 : n ≤ 1099511627776
    · have hs : clockB n = true := by simp [clockB, e1, e2]
      rw [hs]
      clear hs
      go_enter Tryz.func53, Tryz.ntmps53
      go_wp2
      refine bodyPost_ret (v := .bool true) (by simp [results, Tryz.results53, go_sem]) rfl ⟨rfl, Below.refl _ _⟩
    · have hs : clockB n = false := by simp [clockB, e2]
      rw [hs]
      clear hs
      go_enter Tryz.func53, Tryz.ntmps53
      go_wp2
      refine bodyPost_ret (v := .bool false) (by simp [results, Tryz.results53, go_sem]) rfl ⟨rfl, Below.refl _ _⟩
  · have hs : clockB n = false := by simp [clockB, e1]
    rw [hs]
    clear hs
    go_enter Tryz.func53, Tryz.ntmps53
    go_wp2
    refine bodyPost_ret (v := .bool false) (by simp [results, Tryz.results53, go_sem]) rfl ⟨rfl, Below.refl _ _⟩
end Go.Proofs.YtlpngibdplnieaaGreatDoor

/- entry.Copy. -/
namespace Go.Proofs.YtlpngibdplnieaaGreatDoor
open Go Go.RowKit Go.Shelf Go.Sort
attribute [local go_sem] bneI

theorem heap_setE {W : World} {b off : Nat} {cs : Array Value} {t : TypeId} {f : Nat × Nat} {v : Value} (h : W.heap[b]? = some (.cells cs t f)) : (W.setCell ⟨b, off, none⟩ v).heap[b]? = some (.cells (cs.setIfInBounds off v) t f) := by
  simp [World.setCell, Array.getElem?_modify, h]
/-- What Copy hands back: an entry in rows of its own. -/
structure OwnE (w : World) (base : Nat) (x : EntP) (sv fv jv : Value) : Prop where
  rc : w.ownsRow base 57 2 sv x.mail.rcpts.length (x.mail.rcpts.flatMap rcE)
  fa : w.ownsRow base 61 2 fv x.fates.length (x.fates.flatMap faE)
  jo : w.ownsRow base 71 3 jv x.jobs.length (x.jobs.flatMap joE)
theorem OwnE.set {w : World} {base : Nat} {x : EntP} {sv fv jv : Value} (h : OwnE w base x sv fv jv) {a : Addr} (ha : a.block < base) (u : Value) : OwnE (w.setCell a u) base x sv fv jv := ⟨ownsRow_setCell_below h.rc ha u, ownsRow_setCell_below h.fa ha u, ownsRow_setCell_below h.jo ha u⟩
theorem OwnE.less {w : World} {a base : Nat} {x : EntP} {sv fv jv : Value} (h : OwnE w base x sv fv jv) (ha : a ≤ base) : OwnE w a x sv fv jv := ⟨ownsRow_less h.rc ha, ownsRow_less h.fa ha, ownsRow_less h.jo ha⟩
theorem efroz {W : World} {b : Nat} {cs : Array Value} {t : TypeId} (h : W.heap[b]? = some (.cells cs t (0, 0))) (k : Nat) : W.frozen? ⟨b, k, none⟩ = false := by simp [World.frozen?, h]
theorem onceH {p q : Prop} (h : p) (f : RowKit.Hid p → q) : q := f (Lib.hid h)
def zeroC : Array Value := #[.int .i64 0, .int .i64 0, .string ⟨#[]⟩, .slice none 0 0, .bool false, .string ⟨#[]⟩, .string ⟨#[]⟩, .bool false, .slice none 0 0, .slice none 0 0]
/-- What the three clones and the three stores leave. -/
structure CopyEnd (w W : World) (x : EntP) (sv fv jv : Value) : Prop where
  below : Below w.heap.size w W
  box : W.heap[w.heap.size]? = some (.cells (entC x sv fv jv).toArray 28 (0, 0))
  zero : W.heap[w.heap.size + 1]? = some (.cells zeroC 28 (0, 0))
  own : OwnE W (w.heap.size + 2) x sv fv jv
theorem copy_leaf {w W w3 w4 w5 : World} {x : EntP} {sv fv jv s0 f0 j0 : Value} (hB : Below w.heap.size w W) (hsz : W.heap.size = w.heap.size + 2)
    (e5 : w5.heap[w.heap.size]? = some (.cells (entC x s0 f0 j0).toArray 28 (0, 0))) (z5 : w5.heap[w.heap.size + 1]? = some (.cells zeroC 28 (0, 0)))
    (ho3 : w3.ownsRow W.drew.heap.size 57 2 sv x.mail.rcpts.length (x.mail.rcpts.flatMap rcE)) (hb4 : Below w3.heap.size w3 w4)
    (ho4 : w4.ownsRow w3.heap.size 61 2 fv x.fates.length (x.fates.flatMap faE)) (hb5 : Below w4.heap.size w4 w5)
    (ho5 : w5.ownsRow w4.heap.size 71 3 jv x.jobs.length (x.jobs.flatMap joE)) (h3 : Below W.heap.size W w3) (h4 : Below W.heap.size W w4) (h5 : Below W.heap.size W w5) :
    CopyEnd w (((w5.setCell ⟨w.heap.size, 3, none⟩ sv).setCell ⟨w.heap.size, 8, none⟩ fv).setCell ⟨w.heap.size, 9, none⟩ jv) x sv fv jv := by
  have s3 := h3.size
  have s4 := h4.size
  have hne : w.heap.size + 1 ≠ w.heap.size := by omega
  refine ⟨(((hB.trans (h5.mono hB.size)).setCell (Nat.le_refl _) _).setCell (Nat.le_refl _) _).setCell (Nat.le_refl _) _, heap_setE (heap_setE (heap_setE e5)), ?_, ?_, ?_, ?_⟩
  · exact (Below.heap_setCell _ _ _ _ hne).trans ((Below.heap_setCell _ _ _ _ hne).trans ((Below.heap_setCell _ _ _ _ hne).trans z5))
  · have h := (ho3.kept (grownBy_of_below hb4 none) (Classical.em _)).kept (grownBy_of_below hb5 none) (Classical.em _)
    have hlt : w.heap.size < W.drew.heap.size := by show w.heap.size < W.heap.size; omega
    exact ownsRow_less (ownsRow_setCell_below (ownsRow_setCell_below (ownsRow_setCell_below h hlt _) hlt _) hlt _) (by first | omega | (show _ ≤ W.heap.size; omega))
  · have h := ho4.kept (grownBy_of_below hb5 none) (Classical.em _)
    have hlt : w.heap.size < w3.heap.size := by omega
    exact ownsRow_less (ownsRow_setCell_below (ownsRow_setCell_below (ownsRow_setCell_below h hlt _) hlt _) hlt _) (by first | omega | (show _ ≤ W.heap.size; omega))
  · have hlt : w.heap.size < w4.heap.size := by omega
    exact ownsRow_less (ownsRow_setCell_below (ownsRow_setCell_below (ownsRow_setCell_below ho5 hlt _) hlt _) hlt _) (by first | omega | (show _ ≤ W.heap.size; omega))
def CopyPost (w : World) (x : EntP) (e : Ending) (w' : World) : Prop := ∃ sv fv jv, e = .returned (entV x sv fv jv) ∧ OwnE w' w.heap.size x sv fv jv
set_option maxRecDepth 100000 in
set_option maxHeartbeats 4000000 in
theorem copyE_any (x : EntP) (sv fv jv : Value) (w : World) (hx : EntAt w x sv fv jv) (hs : ShortE x) :
    Calls Tryz.prog 10 #[entV x sv fv jv] w fun e w' => CopyPost w x e w' ∧ Below w.heap.size w w' := by
  obtain ⟨p, c, rfl, -⟩ := hx.rc.sh
  obtain ⟨q, d, rfl, -⟩ := hx.fa.sh
  obtain ⟨r, rr, rfl, -⟩ := hx.jo.sh
  unfold entV
  unfold entC
  have HX := Lib.hid (And.intro hx hs)
  clear hx hs
  go_enter Tryz.func10, Tryz.ntmps10
  go_upto_region 1 with (fail)
  generalize hW : World.alloc (World.alloc _ _) _ = W
  have hB : Below w.heap.size w W := by rw [← hW]; exact ((Below.refl _ _).alloc (Nat.le_refl _) _).alloc (by simp) _
  have hsz : W.heap.size = w.heap.size + 2 := by rw [← hW]; simp
  have hb : W.heap[w.heap.size]? = some (.cells (entC x (.slice p x.mail.rcpts.length c) (.slice q x.fates.length d) (.slice r x.jobs.length rr)).toArray 28 (0, 0)) := by rw [← hW]; exact (ha_ne (by simp)).trans (ha_eq rfl)
  have hz := ha_eq (w := (w.alloc (.cells (entC x (.slice p x.mail.rcpts.length c) (.slice q x.fates.length d) (.slice r x.jobs.length rr)).toArray 28))) (k := w.heap.size + 1) (o := .cells #[.int .i64 0, .int .i64 0, .string ⟨#[]⟩, .slice none 0 0, .bool false, .string ⟨#[]⟩, .string ⟨#[]⟩, .bool false, .slice none 0 0, .slice none 0 0] 28) (by simp)
  unfold entC at hb hz
  obtain ⟨-, -, -, x3, -, -, -, -, x8, x9⟩ := eboxAll hb
  rw [hW] at hz
  have hz1 := hz
  have hB0 : Below W.heap.size W W.drew := below_drew W
  have hC1 := fun V (hV : Below W.heap.size W V) => cloneRcpt_any x.mail.rcpts _ V (((HX.out.1.below hB).below hV).rc) HX.out.2.mail.rcpts
  have hC2 := fun V (hV : Below W.heap.size W V) => cloneFate_any x.fates _ V (((HX.out.1.below hB).below hV).fa) HX.out.2.fates
  have hC3 := fun V (hV : Below W.heap.size W V) => cloneJob_any x.jobs _ V (((HX.out.1.below hB).below hV).jo) HX.out.2.jobs
  have keep := fun V (hV : Below W.heap.size W V) (k : Nat) (u : Value) (h : W.cell? ⟨w.heap.size, k, none⟩ = some u) => (hV.cell (p := ⟨w.heap.size, k, none⟩) (cell_lt h)).trans h
  have hbk := fun V (hV : Below W.heap.size W V) => (hV.block w.heap.size (by omega)).trans hb
  have hzk := fun V (hV : Below W.heap.size W V) => (hV.block (w.heap.size + 1) (by omega)).trans hz1
  have y3 := keep _ hB0 _ _ x3
  have y8 := keep _ hB0 _ _ x8
  have y9 := keep _ hB0 _ _ x9
  have HC := Lib.hid (And.intro hB (And.intro hsz (And.intro hB0 (And.intro hC1 (And.intro hC2 (And.intro hC3 (And.intro keep (And.intro hbk (And.intro hzk (And.intro x3 (And.intro x8 x9)))))))))))
  clear hB hsz hb hz hz1 hB0 hC1 hC2 hC3 keep hbk hzk x3 x8 x9 hW
  apply onceH
  case f =>
   intro hfin
   go_region_with ((first
     | (go_at_call 39
        refine (HC.out.2.2.2.1 _ HC.out.2.2.1).mono ?_
        rintro e w3 ⟨v3, rfl, ho3, hb3⟩
        obtain ⟨p3, c3, hv3⟩ := own_shape ho3
        subst hv3
        have hB3 : Below W.heap.size W w3 := HC.out.2.2.1.trans hb3
        have k8 := HC.out.2.2.2.2.2.2.1 _ hB3 _ _ HC.out.2.2.2.2.2.2.2.2.2.2.1
        have k9 := HC.out.2.2.2.2.2.2.1 _ hB3 _ _ HC.out.2.2.2.2.2.2.2.2.2.2.2)
     | (go_at_call 40
        refine (HC.out.2.2.2.2.1 _ hB3).mono ?_
        rintro e w4 ⟨v4, rfl, ho4, hb4⟩
        obtain ⟨p4, c4, hv4⟩ := own_shape ho4
        subst hv4
        have hB4 : Below W.heap.size W w4 := hB3.trans (hb4.mono hB3.size)
        have l9 := HC.out.2.2.2.2.2.2.1 _ hB4 _ _ HC.out.2.2.2.2.2.2.2.2.2.2.2)
     | (go_at_call 41
        refine (HC.out.2.2.2.2.2.1 _ hB4).mono ?_
        rintro e w5 ⟨v5, rfl, ho5, hb5⟩
        obtain ⟨p5, c5, hv5⟩ := own_shape ho5
        subst hv5
        have hB5 : Below W.heap.size W w5 := hB4.trans (hb5.mono hB4.size)
        have e5 := HC.out.2.2.2.2.2.2.2.1 _ hB5
        have e6 := heap_setE (off := 3) (v := .slice p3 x.mail.rcpts.length c3) e5
        have e7 := heap_setE (off := 8) (v := .slice p4 x.fates.length c4) e6
        have m3 : w5.cell? ⟨w.heap.size, 3, none⟩ = some (.slice p x.mail.rcpts.length c) := by simp [World.cell?, e5]
        have n3 : w5.frozen? ⟨w.heap.size, 3, none⟩ = false := by simp [World.frozen?, e5]
        have m8 : (w5.setCell ⟨w.heap.size, 3, none⟩ (.slice p3 x.mail.rcpts.length c3)).cell? ⟨w.heap.size, 8, none⟩ = some (.slice q x.fates.length d) := by simp [World.cell?, e6]
        have n8 : (w5.setCell ⟨w.heap.size, 3, none⟩ (.slice p3 x.mail.rcpts.length c3)).frozen? ⟨w.heap.size, 8, none⟩ = false := by simp [World.frozen?, e6]
        have m9 : ((w5.setCell ⟨w.heap.size, 3, none⟩ (.slice p3 x.mail.rcpts.length c3)).setCell ⟨w.heap.size, 8, none⟩ (.slice p4 x.fates.length c4)).cell? ⟨w.heap.size, 9, none⟩ = some (.slice r x.jobs.length rr) := by simp [World.cell?, e7]
        have n9 : ((w5.setCell ⟨w.heap.size, 3, none⟩ (.slice p3 x.mail.rcpts.length c3)).setCell ⟨w.heap.size, 8, none⟩ (.slice p4 x.fates.length c4)).frozen? ⟨w.heap.size, 9, none⟩ = false := by simp [World.frozen?, e7]
        have H5 := Lib.hid (And.intro hB5 (And.intro e5 (And.intro e6 e7)))
        clear e5 e6 e7)))
   all_goals (have hL := copy_leaf HC.out.1 HC.out.2.1 H5.out.2.1 (HC.out.2.2.2.2.2.2.2.2.1 _ H5.out.1) ho3 hb4 ho4 hb5 ho5 hB3 hB4 H5.out.1)
   all_goals (generalize hW6 : World.setCell _ _ _ = W6 at hL ⊢)
   all_goals (clear hW6 m3 n3 m8 n8 m9 n9 H5 ho3 hb3 hB3 k8 k9 ho4 hb4 hB4 l9 ho5 hb5 hB5)
   all_goals (revert p3 c3 p4 c4 p5 c5 W6)
   all_goals exact hfin.out
  case h =>
    intro p3 c3 p4 c4 p5 c5 W6 hL
    have hbx := hL.box
    have hzx := hL.zero
    have HZ := Lib.hid hL
    clear hL
    unfold entC at hbx
    unfold zeroC at hzx
    obtain ⟨g0, g1, g2, g3, g4, g5, g6, g7, g8, g9⟩ := eboxAll hbx
    obtain ⟨z0, z1, z2, z3, z4, z5, z6, z7, z8, z9⟩ := eboxAll hzx
    have f0 := efroz hzx 0
    have f1 := efroz hzx 1
    have f2 := efroz hzx 2
    have f3 := efroz hzx 3
    have f4 := efroz hzx 4
    have f5 := efroz hzx 5
    have f6 := efroz hzx 6
    have f7 := efroz hzx 7
    have f8 := efroz hzx 8
    have f9 := efroz hzx 9
    clear hbx hzx
    go_wp2
    have hb7 := heap_setE (off := 9) (v := .slice p5 x.jobs.length c5) (heap_setE (off := 8) (v := .slice p4 x.fates.length c4) (heap_setE (off := 7) (v := .bool x.plain) (heap_setE (off := 6) (v := .string ⟨x.mail.text.toArray⟩) (heap_setE (off := 5) (v := .string ⟨x.mail.envid.toArray⟩) (heap_setE (off := 4) (v := .bool x.mail.req) (heap_setE (off := 3) (v := .slice p3 x.mail.rcpts.length c3) (heap_setE (off := 2) (v := .string ⟨x.mail.sender.toArray⟩) (heap_setE (off := 1) (v := .int .i64 x.at_) (heap_setE (off := 0) (v := .int .i64 x.id) HZ.out.zero)))))))))
    have hle : w.heap.size ≤ w.heap.size + 1 := by omega
    have hlt : w.heap.size + 1 < w.heap.size + 2 := by omega
    have hB7 := ((((((((((HZ.out.below.setCell (p := ⟨w.heap.size + 1, 0, none⟩) hle (.int .i64 x.id)).setCell (p := ⟨w.heap.size + 1, 1, none⟩) hle (.int .i64 x.at_)).setCell (p := ⟨w.heap.size + 1, 2, none⟩) hle (.string ⟨x.mail.sender.toArray⟩)).setCell (p := ⟨w.heap.size + 1, 3, none⟩) hle (.slice p3 x.mail.rcpts.length c3)).setCell (p := ⟨w.heap.size + 1, 4, none⟩) hle (.bool x.mail.req)).setCell (p := ⟨w.heap.size + 1, 5, none⟩) hle (.string ⟨x.mail.envid.toArray⟩)).setCell (p := ⟨w.heap.size + 1, 6, none⟩) hle (.string ⟨x.mail.text.toArray⟩)).setCell (p := ⟨w.heap.size + 1, 7, none⟩) hle (.bool x.plain)).setCell (p := ⟨w.heap.size + 1, 8, none⟩) hle (.slice p4 x.fates.length c4)).setCell (p := ⟨w.heap.size + 1, 9, none⟩) hle (.slice p5 x.jobs.length c5))
    have ho7 := ((((((((((HZ.out.own.set (a := ⟨w.heap.size + 1, 0, none⟩) hlt (.int .i64 x.id)).set (a := ⟨w.heap.size + 1, 1, none⟩) hlt (.int .i64 x.at_)).set (a := ⟨w.heap.size + 1, 2, none⟩) hlt (.string ⟨x.mail.sender.toArray⟩)).set (a := ⟨w.heap.size + 1, 3, none⟩) hlt (.slice p3 x.mail.rcpts.length c3)).set (a := ⟨w.heap.size + 1, 4, none⟩) hlt (.bool x.mail.req)).set (a := ⟨w.heap.size + 1, 5, none⟩) hlt (.string ⟨x.mail.envid.toArray⟩)).set (a := ⟨w.heap.size + 1, 6, none⟩) hlt (.string ⟨x.mail.text.toArray⟩)).set (a := ⟨w.heap.size + 1, 7, none⟩) hlt (.bool x.plain)).set (a := ⟨w.heap.size + 1, 8, none⟩) hlt (.slice p4 x.fates.length c4)).set (a := ⟨w.heap.size + 1, 9, none⟩) hlt (.slice p5 x.jobs.length c5))
    clear z0 z1 z2 z3 z4 z5 z6 z7 z8 z9 f0 f1 f2 f3 f4 f5 f6 f7 f8 f9 g0 g1 g2 g3 g4 g5 g6 g7 g8 g9
    generalize hW7 : World.setCell (World.setCell (World.setCell (World.setCell (World.setCell (World.setCell (World.setCell (World.setCell (World.setCell (World.setCell W6 _ _) _ _) _ _) _ _) _ _) _ _) _ _) _ _) _ _) _ _ = W7 at hb7 hB7 ho7 ⊢
    clear hW7
    simp only [zeroC, List.setIfInBounds_toArray, List.set_cons_succ, List.set_cons_zero] at hb7
    obtain ⟨t0, t1, t2, t3, t4, t5, t6, t7, t8, t9⟩ := eboxAll hb7
    clear hb7
    refine bodyPost_ret (v := entV x (.slice p3 x.mail.rcpts.length c3) (.slice p4 x.fates.length c4) (.slice p5 x.jobs.length c5)) (by simp [results, Tryz.results10, go_sem, t0, t1, t2, t3, t4, t5, t6, t7, t8, t9, entV, entC]) rfl ⟨⟨_, _, _, rfl, ho7.less (by omega)⟩, hB7⟩
end Go.Proofs.YtlpngibdplnieaaGreatDoor

/- Package head: small, Like, named, begins. -/
namespace Go.Proofs.YtlpngibdplnieaaGreatDoor
open Go Go.RowKit Go.Shelf Go.Sort
attribute [local go_sem] bneI

theorem or_low (c : UInt8) (h : 65 ≤ (c.toNat : Int) ∧ (c.toNat : Int) ≤ 90) : bits BinOp.or IntKind.u8 (c.toNat : Int) 32 = ((lowB c).toNat : Int) := by
  have hd : ∀ n : Fin 256, 65 ≤ n.val → n.val ≤ 90 → bits BinOp.or IntKind.u8 (n.val : Int) 32 = ((lowB (UInt8.ofNat n.val)).toNat : Int) := by decide +kernel
  have := hd ⟨c.toNat, c.toNat_lt⟩ (by simp only; omega) (by simp only; omega)
  simpa using this
set_option maxRecDepth 100000 in
set_option maxHeartbeats 2000000 in
theorem small_any (u : Bytes) (w : World) (hul : u.length ≤ maxLen) : Calls Tryz.prog 195 #[.string ⟨u.toArray⟩] w fun e w' => e = .returned (.string ⟨(u.map lowB).toArray⟩) ∧ Below w.heap.size w w' := by
  have hconv := Lib.run_convert_string_bytes (P := Tryz.prog) w 9 116 5 ⟨u.toArray⟩ Tryz.underlying9 Tryz.underlying116 Tryz.underlying5
  have hsz : (⟨u.toArray⟩ : ByteArray).size = u.length := rfl
  rw [hsz] at hconv
  have hB := bytes_below w 5 ⟨u.toArray⟩
  have hN := ByAt.new w u
  generalize Lib.bytesWorld w 5 ⟨u.toArray⟩ = w1 at *
  generalize grownCap w u.length 0 5 = cap at *
  have HB := Lib.hid (And.intro hB (And.intro hN hul))
  have hub : u.length ≤ 9223372036854775807 := by unfold maxLen at hul; omega
  clear hB hN hul hsz
  go_enter Tryz.func195, Tryz.ntmps195
  go_wp2_with fail
  clear hconv
  go_loopw [10] (fun iv wr => ∃ i : Nat, iv = .int .i64 (i : Int) ∧ i ≤ u.length ∧ ByAt wr w.heap.size (lowTo u i) ∧ Below w.heap.size w wr) (fun iv _ => u.length - natI iv)
  case atStart => exact ⟨0, rfl, Nat.zero_le _, by simpa [lowTo] using HB.out.2.1, HB.out.1⟩
  case round =>
    obtain ⟨i, rfl, hi, hA, hBl⟩ := hrel
    by_cases hlast : i < u.length
    · have hli : (i : Int) < (u.length : Int) := by omega
      have hll := lowTo_len u i (by omega)
      have hil : i < (lowTo u i).length := by omega
      obtain ⟨c0, f0⟩ := hA.cell i hil
      have hst := hA.set i hil (lowB u[i])
      rw [lowTo_get u i hlast hil] at c0
      rw [lowTo_succ u i hlast] at hst
      have hlow := lowB_int u[i]
      have hBl2 := fun v => hBl.setCell (p := ⟨w.heap.size, i, none⟩) (Nat.le_refl _) v
      have hsame : lowB u[i] = u[i] → lowTo u (i + 1) = lowTo u i := fun h => by
        rw [← lowTo_succ u i hlast, h]
        have := lowTo_get u i hlast hil
        conv => lhs; rw [← this]
        exact List.set_getElem_self hil
      have HR := Lib.hid (And.intro hA (And.intro hBl (And.intro hst (And.intro hBl2 hsame))))
      have hcl := u[i].toNat_lt
      clear hA hBl hst hBl2 hsame hll hil
      generalize u[i] = c at *
      rcases hlow with ⟨⟨h1, h2⟩, h3⟩ | ⟨hno, hsm⟩
      · have h3' := Lib.hid (or_low c ⟨h1, h2⟩)
        clear h3
        go_wp2
        go_roundw
        case rel => exact ⟨i + 1, by simp, by omega, by rw [h3'.out]; exact HR.out.2.2.1, HR.out.2.2.2.1 _⟩
        case measure => simp [natI]; omega
      · have HS := Lib.hid hsm
        clear hsm
        by_cases h1 : 65 ≤ (c.toNat : Int)
        · have h2 : ¬ (c.toNat : Int) ≤ 90 := fun h => hno ⟨h1, h⟩
          clear hno
          go_wp2
          go_roundw
          case rel => exact ⟨i + 1, by simp, by omega, by rw [HR.out.2.2.2.2 HS.out]; exact HR.out.1, HR.out.2.1⟩
          case measure => simp [natI]; omega
        · clear hno
          go_wp2
          go_roundw
          case rel => exact ⟨i + 1, by simp, by omega, by rw [HR.out.2.2.2.2 HS.out]; exact HR.out.1, HR.out.2.1⟩
          case measure => simp [natI]; omega
    · have hli : ¬ (i : Int) < (u.length : Int) := by omega
      have hfin : lowTo u i = u.map lowB := by unfold lowTo; rw [List.take_of_length_le (by omega), List.drop_of_length_le (by omega), List.append_nil]
      rw [hfin] at hA
      have hstr := fun W (h : ByAt W w.heap.size (u.map lowB)) => h.str cap
      simp only [List.length_map] at hstr
      have hs1 := hstr wr hA
      obtain ⟨v, hv⟩ : ∃ v, v = u.map lowB := ⟨_, rfl⟩
      rw [← hv] at hs1 hA
      have HV := Lib.hid (And.intro hv hBl)
      clear hA hBl hstr hv hfin
      go_wp2
      refine bodyPost_ret (v := .string ⟨v.toArray⟩) (by simp [results, Tryz.results195, go_sem]) rfl ⟨by rw [HV.out.1], HV.out.2⟩

set_option maxRecDepth 100000 in
theorem like_any (a b : Bytes) (w : World) (ha : a.length ≤ maxLen) (hb : b.length ≤ maxLen) : Calls Tryz.prog 159 #[.string ⟨a.toArray⟩, .string ⟨b.toArray⟩] w fun e w' => e = .returned (.bool (likeB a b)) ∧ Below w.heap.size w w' := by
  have h1 := small_any a w ha
  have h2 := fun W => small_any b W hb
  have hl : likeB a b = decide (a.map lowB = b.map lowB) := rfl
  rw [hl]
  generalize a.map lowB = x at *
  generalize b.map lowB = y at *
  clear ha hb hl
  go_enter Tryz.func159, Tryz.ntmps159
  go_wp2_with fail
  refine h1.mono ?_
  rintro e w1 ⟨rfl, hb1⟩
  have hS := h2 w1
  have HB := Lib.hid hb1
  clear h1 h2 hb1
  go_wp2_with fail
  refine hS.mono ?_
  rintro e w2 ⟨rfl, hb2⟩
  have HC := Lib.hid (HB.out.trans (hb2.mono HB.out.size))
  clear hS hb2
  by_cases h : x = y
  · subst h
    go_wp2
    refine bodyPost_ret (v := .bool true) (by simp [results, Tryz.results159, go_sem]) rfl ⟨by simp, HC.out⟩
  · go_wp2
    refine bodyPost_ret (v := .bool false) (by simp [results, Tryz.results159, go_sem, h]) rfl ⟨by rw [decide_eq_false h], HC.out⟩

def nameC (c : UInt8) : Bool := 33 ≤ c && c ≤ 126 && c != 58
theorem nameC_int (c : UInt8) : nameC c = (decide (33 ≤ (c.toNat : Int)) && decide ((c.toNat : Int) ≤ 126) && !decide ((c.toNat : Int) = 58)) := by
  unfold nameC
  congr 1
  · congr 1 <;> exact decide_eq_decide.2 (by rw [UInt8.le_iff_toNat_le]; simp; omega)
  · rw [bne, show (58 : UInt8) = UInt8.ofNat 58 from rfl, eqI c 58 (by decide)]
    rfl
set_option maxRecDepth 100000 in
set_option maxHeartbeats 2000000 in
theorem named_any (s : Bytes) (w : World) (hs : s.length ≤ maxLen) : Calls Tryz.prog 269 #[.string ⟨s.toArray⟩] w fun e w' => e = .returned (.bool (namedB s)) ∧ Below w.heap.size w w' := by
  have hconv := Lib.run_convert_string_bytes (P := Tryz.prog) w 9 116 5 ⟨s.toArray⟩ Tryz.underlying9 Tryz.underlying116 Tryz.underlying5
  have hsz : (⟨s.toArray⟩ : ByteArray).size = s.length := rfl
  rw [hsz] at hconv
  have hB := bytes_below w 5 ⟨s.toArray⟩
  have hN := ByAt.new w s
  generalize Lib.bytesWorld w 5 ⟨s.toArray⟩ = w1 at *
  generalize grownCap w s.length 0 5 = cap at *
  have hnm : namedB s = (s.all nameC && !s.isEmpty) := rfl
  have HB := Lib.hid (And.intro hB (And.intro hN hnm))
  have hub : s.length ≤ 9223372036854775807 := by unfold maxLen at hs; omega
  clear hB hN hsz hs hnm
  go_enter Tryz.func269, Tryz.ntmps269
  go_wp2_with fail
  clear hconv
  go_loopw [8] (fun iv wr => ∃ i : Nat, iv = .int .i64 (i : Int) ∧ i ≤ s.length ∧ (s.take i).all nameC = true ∧ wr = w1) (fun iv _ => s.length - natI iv)
  case atStart => exact ⟨0, rfl, Nat.zero_le _, rfl, rfl⟩
  case round =>
    obtain ⟨i, rfl, hi, hall, rfl⟩ := hrel
    by_cases hlast : i < s.length
    · have hli : (i : Int) < (s.length : Int) := by omega
      obtain ⟨c0, -⟩ := HB.out.2.1.cell i hlast
      have hst : (s.take (i + 1)).all nameC = nameC s[i] := by
        rw [List.take_succ_eq_append_getElem hlast, List.all_append, hall]; simp
      have hno : nameC s[i] = false → s.all nameC = false := fun h => by
        rw [List.all_eq_false]
        exact ⟨s[i], List.getElem_mem hlast, by rw [h]; simp⟩
      have hci := nameC_int s[i]
      have HD := Lib.hid (And.intro hst hno)
      clear hst hno hall
      generalize nameC s[i] = r at hci HD
      generalize s[i].toNat = n at *
      have hk : ((n : Int) < 33 ∧ r = false) ∨ (33 ≤ (n : Int) ∧ 126 < (n : Int) ∧ r = false) ∨ ((33 ≤ (n : Int) ∧ (n : Int) ≤ 126) ∧ (n : Int) = 58 ∧ r = false) ∨ ((33 ≤ (n : Int) ∧ (n : Int) ≤ 126) ∧ ¬ (n : Int) = 58 ∧ r = true) := by
        rw [hci]
        simp only [Bool.and_eq_true, decide_eq_true_eq, Bool.and_eq_false_iff, decide_eq_false_iff_not, Bool.not_eq_true', Bool.not_eq_false', decide_eq_true_eq]
        omega
      clear hci
      rcases hk with ⟨h1, rfl⟩ | ⟨h1, h2, rfl⟩ | ⟨⟨h1, h2⟩, h3, rfl⟩ | ⟨⟨h1, h2⟩, h3, rfl⟩
      · have HN := Lib.hid (HD.out.2 rfl)
        clear HD
        go_wp2
        refine bodyPost_ret (v := .bool false) (by simp [results, Tryz.results269, go_sem]) rfl ⟨by rw [HB.out.2.2, HN.out]; rfl, HB.out.1⟩
      · have h4 : ¬ (n : Int) < 33 := by omega
        have HN := Lib.hid (HD.out.2 rfl)
        clear HD
        go_wp2
        refine bodyPost_ret (v := .bool false) (by simp [results, Tryz.results269, go_sem]) rfl ⟨by rw [HB.out.2.2, HN.out]; rfl, HB.out.1⟩
      · have h4 : ¬ (n : Int) < 33 := by omega
        have h5 : ¬ 126 < (n : Int) := by omega
        have h6 : ((n : Int) == 58) = true := by rw [h3]; rfl
        have h7 : decide ((n : Int) = 58) = true := by rw [h3]; rfl
        have HN := Lib.hid (HD.out.2 rfl)
        clear h3 HD
        go_wp2
        refine bodyPost_ret (v := .bool false) (by simp [results, Tryz.results269, go_sem]) rfl ⟨by rw [HB.out.2.2, HN.out]; rfl, HB.out.1⟩
      · have h4 : ¬ (n : Int) < 33 := by omega
        have h5 : ¬ 126 < (n : Int) := by omega
        have h6 : ((n : Int) == 58) = false := by simpa using h3
        have h7 : decide ((n : Int) = 58) = false := by simpa using h3
        clear h3
        go_wp2
        go_roundw
        case rel => exact ⟨i + 1, by simp, by omega, HD.out.1, by simp⟩
        case measure => simp [natI]; omega
    · have hli : ¬ (i : Int) < (s.length : Int) := by omega
      have hfa : s.all nameC = true := by rw [List.take_of_length_le (by omega)] at hall; exact hall
      have HA := Lib.hid hfa
      clear hall hfa
      by_cases h0 : s = []
      · subst h0
        go_wp2
        refine bodyPost_ret (v := .bool false) (by simp [results, Tryz.results269, go_sem]) rfl ⟨by rw [HB.out.2.2]; rfl, HB.out.1⟩
      · have h1 : s.isEmpty = false := by simpa using h0
        have H1 := Lib.hid h1
        go_wp2
        refine bodyPost_ret (v := .bool true) (by simp [results, Tryz.results269, go_sem]) rfl ⟨by rw [HB.out.2.2, HA.out, H1.out]; rfl, HB.out.1⟩
theorem set2 {W : World} {b : Nat} {v0 v1 : Value} {t : TypeId} (x y : Value) (h : W.heap[b]? = some (.cells #[v0, v1] t (0, 0))) : ((W.setCell ⟨b, 0, none⟩ x).setCell ⟨b, 1, none⟩ y).heap[b]? = some (.cells #[x, y] t (0, 0)) := by
  simp [World.setCell, Array.getElem?_modify, h]
/-- What begins answers. -/
def BeginsPost (l : Bytes) (e : Ending) : Prop := ∃ (n v : Bytes) (f : Bool), e = .returned (.tuple #[.agg #[.string ⟨n.toArray⟩, .string ⟨v.toArray⟩], .bool f]) ∧ beginsB l = (if f then some (n, v) else none) ∧ n.length ≤ l.length ∧ v.length ≤ l.length
theorem cut58_le (l : Bytes) : (Lib.cut l [58]).1.length ≤ l.length ∧ (Lib.cut l [58]).2.1.length ≤ l.length := by
  unfold Lib.cut
  split
  · simp; omega
  · simp
set_option maxRecDepth 100000 in
set_option maxHeartbeats 2000000 in
theorem begins_any (l : Bytes) (w : World) (hs : l.length ≤ 1000000) (hg : Glob w) : Calls Tryz.prog 256 #[.string ⟨l.toArray⟩] w fun e w' => BeginsPost l e ∧ Below w.heap.size w w' := by
  obtain ⟨W1, hW1⟩ : ∃ W1, W1 = (w.alloc (.cells #[.string ⟨#[]⟩, .string ⟨#[]⟩] 220)) := ⟨_, rfl⟩
  have hB1 : Below w.heap.size w W1 := by rw [hW1]; exact (Below.refl _ w).alloc (Nat.le_refl _) _
  have hb1 : W1.heap[w.heap.size]? = some (.cells #[.string ⟨#[]⟩, .string ⟨#[]⟩] 220 (0, 0)) := by rw [hW1]; exact ha_eq rfl
  obtain ⟨m, hm⟩ := hg.keep hB1
  have hC := Tryz.strings_Cut ⟨l.toArray⟩ ⟨#[58]⟩ m W1 (by show l.length < _; omega) hm
  have e1 : (⟨l.toArray⟩ : ByteArray).data.toList = l := rfl
  have e3 : (⟨#[58]⟩ : ByteArray).data.toList = [58] := rfl
  rw [e1, e3] at hC
  have hle := cut58_le l
  cases hc : Lib.cut l [58] with
  | mk n x =>
    obtain ⟨v, f⟩ := x
    rw [hc] at hC hle
    dsimp only at hC hle
    have hN := fun W => named_any n W (by unfold maxLen; omega)
    have hbg : beginsB l = if (f && namedB n) = true then some (n, v) else none := by
      unfold beginsB
      rw [hc]
    have HB := Lib.hid (And.intro hB1 (And.intro hb1 (And.intro hle hbg)))
    clear hB1 hb1 hle hbg hm hg e1 e3 hc
    go_enter Tryz.func256, Tryz.ntmps256
    go_upto_region 1 with (fail)
    rw [← hW1]
    clear hW1
    go_wp2_with fail
    refine hC.mono ?_
    rintro e w2 ⟨rfl, q, rfl⟩
    clear hC
    have hb1 : (W1.drewN q).heap[w.heap.size]? = some (.cells #[.string ⟨#[]⟩, .string ⟨#[]⟩] 220 (0, 0)) := HB.out.2.1
    have hBq : Below w.heap.size w (W1.drewN q) := HB.out.1.trans ((below_drewN (Below.refl _ _) q).mono HB.out.1.size)
    generalize W1.drewN q = W2 at *
    have x0 : W2.cell? ⟨w.heap.size, 0, none⟩ = some (.string ⟨#[]⟩) := by simp [World.cell?, hb1]
    have x1 : W2.cell? ⟨w.heap.size, 1, none⟩ = some (.string ⟨#[]⟩) := by simp [World.cell?, hb1]
    have f0 : W2.frozen? ⟨w.heap.size, 0, none⟩ = false := by simp [World.frozen?, hb1]
    have f1 : W2.frozen? ⟨w.heap.size, 1, none⟩ = false := by simp [World.frozen?, hb1]
    have hfin := fun (W : World) (h : W.heap[w.heap.size]? = some (.cells #[.string ⟨#[]⟩, .string ⟨#[]⟩] 220 (0, 0))) => set2 (.string ⟨n.toArray⟩) (.string ⟨v.toArray⟩) h
    cases f with
    | false =>
      have hz := hfin W2 hb1
      have z0 : ((W2.setCell ⟨w.heap.size, 0, none⟩ (.string ⟨n.toArray⟩)).setCell ⟨w.heap.size, 1, none⟩ (.string ⟨v.toArray⟩)).cell? ⟨w.heap.size, 0, none⟩ = some (.string ⟨n.toArray⟩) := by simp [World.cell?, hz]
      have z1 : ((W2.setCell ⟨w.heap.size, 0, none⟩ (.string ⟨n.toArray⟩)).setCell ⟨w.heap.size, 1, none⟩ (.string ⟨v.toArray⟩)).cell? ⟨w.heap.size, 1, none⟩ = some (.string ⟨v.toArray⟩) := by simp [World.cell?, hz]
      have HZ := Lib.hid ((hBq.setCell (p := ⟨w.heap.size, 0, none⟩) (Nat.le_refl _) (.string ⟨n.toArray⟩)).setCell (p := ⟨w.heap.size, 1, none⟩) (Nat.le_refl _) (.string ⟨v.toArray⟩))
      clear hb1 hBq hN hfin hz
      go_wp2
      refine bodyPost_ret (v := .tuple #[.agg #[.string ⟨n.toArray⟩, .string ⟨v.toArray⟩], .bool false]) (by simp [results, Tryz.results256, go_sem, z0, z1]) rfl ⟨⟨n, v, false, rfl, by rw [HB.out.2.2.2]; rfl, HB.out.2.2.1⟩, HZ.out⟩
    | true =>
      have hN2 := hN W2
      have HW := Lib.hid (And.intro hBq hb1)
      clear hBq hb1 hN x0 x1 f0 f1
      go_wp2_with fail
      refine hN2.mono ?_
      rintro e w3 ⟨rfl, hb3⟩
      have hblk : w3.heap[w.heap.size]? = some (.cells #[.string ⟨#[]⟩, .string ⟨#[]⟩] 220 (0, 0)) := (hb3.block _ (Array.getElem?_eq_some_iff.1 HW.out.2).1).trans HW.out.2
      have x0 : w3.cell? ⟨w.heap.size, 0, none⟩ = some (.string ⟨#[]⟩) := by simp [World.cell?, hblk]
      have x1 : w3.cell? ⟨w.heap.size, 1, none⟩ = some (.string ⟨#[]⟩) := by simp [World.cell?, hblk]
      have f0 : w3.frozen? ⟨w.heap.size, 0, none⟩ = false := by simp [World.frozen?, hblk]
      have f1 : w3.frozen? ⟨w.heap.size, 1, none⟩ = false := by simp [World.frozen?, hblk]
      have hz := hfin w3 hblk
      have z0 : ((w3.setCell ⟨w.heap.size, 0, none⟩ (.string ⟨n.toArray⟩)).setCell ⟨w.heap.size, 1, none⟩ (.string ⟨v.toArray⟩)).cell? ⟨w.heap.size, 0, none⟩ = some (.string ⟨n.toArray⟩) := by simp [World.cell?, hz]
      have z1 : ((w3.setCell ⟨w.heap.size, 0, none⟩ (.string ⟨n.toArray⟩)).setCell ⟨w.heap.size, 1, none⟩ (.string ⟨v.toArray⟩)).cell? ⟨w.heap.size, 1, none⟩ = some (.string ⟨v.toArray⟩) := by simp [World.cell?, hz]
      have hB3 := HW.out.1.trans (hb3.mono HW.out.1.size)
      have HZ := Lib.hid ((hB3.setCell (p := ⟨w.heap.size, 0, none⟩) (Nat.le_refl _) (.string ⟨n.toArray⟩)).setCell (p := ⟨w.heap.size, 1, none⟩) (Nat.le_refl _) (.string ⟨v.toArray⟩))
      have hbg : beginsB l = if namedB n = true then some (n, v) else none := by rw [HB.out.2.2.2]; simp
      have HG := Lib.hid hbg
      clear hb3 hblk hfin hz hB3 hN2 hbg
      generalize namedB n = r at *
      go_wp2
      refine bodyPost_ret (v := .tuple #[.agg #[.string ⟨n.toArray⟩, .string ⟨v.toArray⟩], .bool r]) (by simp [results, Tryz.results256, go_sem, z0, z1]) rfl ⟨⟨n, v, r, rfl, HG.out, HB.out.2.2.1⟩, HZ.out⟩
end Go.Proofs.YtlpngibdplnieaaGreatDoor

/- line.Cut: a text's lines, and what is left. -/
namespace Go.Proofs.YtlpngibdplnieaaGreatDoor
open Go Go.RowKit Go.Shelf Go.Sort
attribute [local go_sem] bneI Oper.semAt_some

/-- Where the last line ends. -/
def lastAt (xs : List (Bytes × Nat)) : Nat := (xs.getLast?.map (·.2)).getD 0
/-- So far the lines of a text have been told. -/
structure CutI (s : Bytes) (pre : List (Bytes × Nat)) (n : Nat) : Prop where
  pos : n = lastAt pre
  le : n ≤ s.length
  two : pre.length * 2 ≤ n
  lines : linesB s = (pre.map (·.1) ++ (linesB (s.drop n)).1, (linesB (s.drop n)).2)
theorem CutI.zero (s : Bytes) : CutI s [] 0 := ⟨rfl, Nat.zero_le _, Nat.le_refl _, by simp⟩
theorem index_cut (s : Bytes) : (Lib.index s [13, 10] < 0 ∧ Lib.cut s [13, 10] = (s, [], false)) ∨ ∃ i : Nat, Lib.index s [13, 10] = (i : Int) ∧ i + 2 ≤ s.length ∧ Lib.cut s [13, 10] = (s.take i, s.drop (i + 2), true) := by
  by_cases h : 0 ≤ Lib.index s [13, 10]
  · right
    have hr := Lib.index_room s [13, 10] h
    obtain ⟨i, hi⟩ := Int.eq_ofNat_of_zero_le h
    refine ⟨i, hi, by rw [hi] at hr; simp at hr; omega, ?_⟩
    unfold Lib.cut
    rw [if_pos h, hi]
    rfl
  · left
    refine ⟨by omega, ?_⟩
    unfold Lib.cut
    rw [if_neg h]
theorem CutI.step {s : Bytes} {pre : List (Bytes × Nat)} {a i : Nat} (h : CutI s pre a) (hi : i + 2 ≤ (s.drop a).length) (hc : Lib.cut (s.drop a) [13, 10] = ((s.drop a).take i, (s.drop a).drop (i + 2), true)) :
    CutI s (pre ++ [((s.drop a).take i, a + (i + 2))]) (a + (i + 2)) := by
  have hl := h.le
  simp only [List.length_drop] at hi
  refine ⟨by simp [lastAt], by omega, by have := h.two; simp; omega, ?_⟩
  have hx := linesB_cut hc
  rw [List.drop_drop] at hx
  rw [h.lines, hx]
  simp
theorem CutI.done {s : Bytes} {pre : List (Bytes × Nat)} {a : Nat} (h : CutI s pre a) (hc : Lib.cut (s.drop a) [13, 10] = (s.drop a, [], false)) : linesB s = (pre.map (·.1), s.drop (lastAt pre)) := by
  rw [h.lines, linesB_no hc, ← h.pos]
  simp
def liE (x : Bytes × Nat) : Array Value := #[str x.1, .int .i64 (x.2 : Int)]

set_option maxRecDepth 100000 in
set_option maxHeartbeats 1000000 in
theorem whole1_in (n l Bs n₀ : Nat) (s : Bytes) (hs : s.length ≤ 1000000) (hgl : 1 < n₀) (J Jx : List (Bytes × Nat) → World → Prop)
    (W : World)
    (hY : ∀ pre x W1, J pre W1 → pre.length < s.length → YieldAt Fence.wide (n - 1) Tryz.prog l (liE x) W1 fun e W' =>
      (e = .returned (.bool true) ∧ J (pre ++ [x]) W' ∧ KeepsPriv (KB n₀ Bs) W1 W') ∨ (e = .returned (.bool false) ∧ Jx (pre ++ [x]) W'))
    (hB : W.heap[Bs]? = some (.cells #[str s] 9 (0, 0))) (hg : Glob W) (h0 : J [] W) :
    CallsIn Fence.wide n Tryz.prog 272 #[.func (.yield l) #[] #[], .pointer (some ⟨Bs, 0, none⟩)] W fun e W' => (∃ v, e = .returned v) ∧
      ((∃ xs, (linesB s = (xs.map (·.1), s.drop (lastAt xs)) ∧ lastAt xs ≤ s.length) ∧ J xs W') ∨ (∃ pre, True ∧ Jx pre W')) := by
  refine callsIn_of_wp Tryz.func272 rfl trivial ?_ rfl
  simp only [Tryz.ntmps272, List.size_toArray, List.length_cons, List.length_nil, Nat.reduceAdd, Nat.reduceSub, Array.replicate_succ, Array.replicate_zero, List.push_toArray, List.append_toArray, List.nil_append, List.cons_append]
  gi_wp2
  gi_loopw [3] (fun s3 wr => ∃ (pre : List (Bytes × Nat)) (a : Nat), s3 = .int .i64 (a : Int) ∧ CutI s pre a ∧ wr.heap[Bs]? = some (.cells #[str s] 9 (0, 0)) ∧ Glob wr ∧ W.heap.size ≤ wr.heap.size ∧ J pre wr)
    (fun s3 _ => s.length - natI s3)
  case atStart =>
    exact ⟨[], 0, rfl, CutI.zero s, hB, hg, Nat.le_refl _, h0⟩
  case round =>
    obtain ⟨pre, a, rfl, hI, hb, ⟨m, hm⟩, hsz, hj⟩ := hrel
    obtain ⟨hc, hf⟩ := box_cell hb
    unfold str at hc
    have hale := hI.le
    have hpl : pre.length * 2 ≤ a := hI.two
    have hex := extract_drop s a s.length rfl
    have hdl : (s.drop a).length = s.length - a := by simp
    have hst := Tryz.strings_Index ⟨(s.drop a).toArray⟩ ⟨#[13, 10]⟩ m wr (by show (s.drop a).length < _; omega) hm
    have hix := index_cut (s.drop a)
    have e0 : (⟨(s.drop a).toArray⟩ : ByteArray).data.toList = s.drop a := rfl
    have e1 : (⟨#[13, 10]⟩ : ByteArray).data.toList = [13, 10] := rfl
    rw [e0, e1] at hst
    clear e0 e1
    have hszs : (⟨s.toArray⟩ : ByteArray).size = s.length := rfl
    have HI := Lib.hid (And.intro hI (And.intro hix (And.intro hj (And.intro hb (And.intro hsz hm)))))
    clear hI hix hj hb hsz hm
    gi_wp2_with fail
    refine callW (hst.mono ?_)
    rintro e wr ⟨rfl, rfl⟩
    clear hst
    rcases HI.out.2.1 with ⟨hneg, hc⟩ | ⟨i, hi, hroom, hc⟩
    · have HD := Lib.hid (And.intro (HI.out.1.done hc) (show lastAt pre ≤ s.length by rw [← HI.out.1.pos]; exact hale))
      clear hc
      generalize Lib.index (s.drop a) [13, 10] = ix at *
      gi_wp2
      refine bodyPost_ret (results_none rfl _ _ _) rfl ?_
      exact ⟨⟨_, rfl⟩, .inl ⟨pre, HD.out, HI.out.2.2.1⟩⟩
    · rw [hi]
      have hstp := HI.out.1.step hroom hc
      have hl2 : a + i + 2 ≤ s.length := by rw [hdl] at hroom; omega
      have hx2 : (⟨s.toArray⟩ : ByteArray).extract a (a + i) = ⟨((s.drop a).take i).toArray⟩ := by
        apply ByteArray.ext
        apply Array.toList_inj.1
        simp only [ByteArray.data_extract, Array.toList_extract, List.extract_eq_take_drop]
        rw [show a + i - a = i by omega]
      have hlt : pre.length < s.length := by omega
      have hwr : wr.heap[Bs]? = some (.cells #[str s] 9 (0, 0)) := HI.out.2.2.2.1
      have hjj := HI.out.2.2.1
      have hdf : ¬ (i : Int) < 0 := by omega
      obtain ⟨x, hx⟩ : ∃ x, x = (s.drop a).take i := ⟨_, rfl⟩
      rw [← hx] at hx2 hstp
      obtain ⟨fn, tmps, assign, body, hy, hR⟩ := hY pre (x, a + (i + 2)) wr hjj hlt
      unfold liE str at hy
      have HS := Lib.hid (And.intro hstp (And.intro hi (And.intro hl2 (And.intro hwr (And.intro hx hlt)))))
      clear hstp hi hc hwr hjj hx hlt hroom hdl hex
      have hai : a + i ≤ s.length := by omega
      have e2 : ((a + (i + 2) : Nat) : Int) = (a : Int) + ((i : Int) + 2) := by omega
      dsimp only at hy
      rw [e2] at hy
      clear e2
      gi_wp2_with fail
      refine ⟨(fun h => by cases h), hR.mono ?_⟩
      rintro e W3 (⟨rfl, hJ3, hk3⟩ | ⟨rfl, hJx3⟩)
      · have hb3 : W3.heap[Bs]? = some (.cells #[str s] 9 (0, 0)) := (hk3.2 Bs (.inr rfl)).trans HS.out.2.2.2.1
        have hsz3 : W.heap.size ≤ W3.heap.size := Nat.le_trans HI.out.2.2.2.2.1 hk3.1
        have hg3 : Glob W3 := ⟨m, (World.cell?_of_block (hk3.2 _ (.inl hgl))).trans HI.out.2.2.2.2.2⟩
        have HB3 := Lib.hid (And.intro hb3 (And.intro hg3 (And.intro hsz3 hJ3)))
        clear hb3 hg3 hsz3 hJ3 hk3 hc hf hx2 hy hR
        gi_wp2
        go_roundw
        case rel => exact ⟨pre ++ [(x, a + (i + 2))], a + (i + 2), by simp, HS.out.1, HB3.out.1, HB3.out.2.1, HB3.out.2.2.1, HB3.out.2.2.2⟩
        case measure => simp [natI]; omega
      · clear hx2 hy hR hc hf
        gi_wp2
        refine bodyPost_ret (results_none rfl _ _ _) rfl ?_
        exact ⟨⟨_, rfl⟩, .inr ⟨_, trivial, hJx3⟩⟩
theorem whole_stops (n Bs n₀ : Nat) (s : Bytes) (hs : s.length ≤ 1000000) (hgl : 1 < n₀) (hBn : n₀ ≤ Bs) (w : World) (hB : w.heap[Bs]? = some (.cells #[str s] 9 (0, 0))) (hg : Glob w) :
    SeqStopsP Fence.wide n Tryz.prog 272 #[.pointer (some ⟨Bs, 0, none⟩)] liE (KeepsPriv (KB n₀ Bs)) (fun _ => False) (fun xs => linesB s = (xs.map (·.1), s.drop (lastAt xs)) ∧ lastAt xs ≤ s.length) (fun _ => True) (fun pre _ => pre.length < s.length) w := fun l J Jx W hW _ _ hY h0 => by
  have hlt := (Array.getElem?_eq_some_iff.1 hB).1
  exact whole1_in n l Bs n₀ s hs hgl J Jx W hY ((hW.block Bs hlt).trans hB) (hg.below hW (by omega)) h0
theorem whole_in (n : Nat) (s : ByteArray) (w : World) :
    CallsIn Fence.wide n Tryz.prog 268 #[.string s] w fun e w' => e = .returned (.func (.func 272) #[] #[.pointer (some ⟨w.heap.size, 0, none⟩)]) ∧ w.alloc (.cells #[.string s] 9) = w' := by
  refine callsIn_of_wp Tryz.func268 rfl trivial ?_ rfl
  simp only [Tryz.ntmps268, List.size_toArray, List.length_cons, List.length_nil, Nat.reduceAdd, Nat.reduceSub, Array.replicate_succ, Array.replicate_zero, List.push_toArray, List.append_toArray, List.nil_append, List.cons_append]
  gi_wp2
  go_ret
  exact ⟨rfl, rfl⟩
theorem infoStr : (Tryz.prog.info? 9).map (fun i => (i.zero, i.size, i.bytes)) = some (some (.string ⟨#[]⟩), 1, 16) := by kernel_rfl
theorem row_ne {W : World} {base : Nat} {e : TypeId} {size : Nat} {v : Value} {k : Nat} {xs : List Value} (h : W.ownsRow base e size v k xs) {row : Option Nat} (hr : ∀ r, row = some r → ∃ o : Obj, W.heap[r]? = some o ∧ ∀ cur, o ≠ .cells cur e (0, 0)) : v.ownBlock = none ∨ v.ownBlock ≠ row := by
  rcases h.2 with ⟨rfl, _⟩ | ⟨g, cap, cur, rfl, _, hgb, _⟩
  · exact .inl rfl
  · refine .inr fun e' => ?_
    obtain ⟨o, ho, hn⟩ := hr g (by simpa [Value.ownBlock] using e'.symm)
    rw [hgb] at ho; cases ho; exact hn cur rfl
theorem row_cells {W : World} {base : Nat} {e : TypeId} {size : Nat} {v : Value} {k : Nat} {xs : List Value} (h : W.ownsRow base e size v k xs) : ∀ (j : Nat) (o : Obj), v.ownBlock = some j → W.heap[j]? = some o → o.isCells = true := by
  intro j o hj ho
  rcases h.2 with ⟨rfl, _⟩ | ⟨g, cap, cur, rfl, _, hgb, _⟩
  · simp [Value.ownBlock] at hj
  · have : g = j := by simpa [Value.ownBlock] using hj
    subst this; rw [hgb] at ho; cases ho; rfl
theorem cell_list1 {w : World} {x : Value} {t : TypeId} {k : Nat} (hk : k = w.heap.size) : ∀ j u, [x][j]? = some u → (w.alloc (.cells #[x] t)).cell? ((⟨k, 0, none⟩ : Addr).add j) = some u := by
  subst hk
  intro j u hj
  match j, hj with
  | 0, hj => simp at hj; subst hj; simp [Addr.add]
theorem setCell_same {W : World} {b off : Nat} {cs : Array Value} {t : TypeId} {f : Nat × Nat} {v : Value} (h : W.heap[b]? = some (.cells cs t f)) (hv : cs[off]? = some v) : W.setCell ⟨b, off, none⟩ v = W := by
  have hlt := (Array.getElem?_eq_some_iff.1 h).1
  have hol := (Array.getElem?_eq_some_iff.1 hv).1
  have e : W.heap.modify b (fun
      | .cells c elem frozen => .cells (if (none : Option Nat).isSome then c else c.setIfInBounds off v) elem frozen
      | o => o) = W.heap := by
    apply Array.ext
    · simp
    · intro i h1 h2
      rw [Array.getElem_modify]
      split
      · rename_i hi
        subst hi
        have hg : W.heap[b] = .cells cs t f := (Array.getElem?_eq_some_iff.1 h).2
        rw [hg]
        have : cs.setIfInBounds off v = cs := by
          apply Array.ext
          · simp
          · intro j h3 h4
            rw [Array.getElem_setIfInBounds]
            split
            · rename_i hj
              subst hj
              exact ((Array.getElem?_eq_some_iff.1 hv).2).symm
            · rfl
        simp [this]
      · rfl
  show { W with heap := _ } = W
  exact congrArg (fun x => { W with heap := x }) e

theorem grown_put (W : World) (D : Nat) : W.grownBy (W.putObj D (.deferred none)) (some D) := grownBy_putObj' W D _
/-- What a round of Cut has done. -/
structure CutJ (w : World) (pre : List (Bytes × Nat)) (W : World) : Prop where
  below : Below w.heap.size w W
  size : w.heap.size + 3 ≤ W.heap.size
  box : ∃ v, W.heap[w.heap.size]? = some (.cells #[v] 81 (0, 0)) ∧ W.ownsRow (w.heap.size + 3) 9 1 v pre.length (pre.map fun x => str x.1)
  used : W.heap[w.heap.size + 1]? = some (.cells #[.int .i64 (lastAt pre : Int)] 3 (0, 0))
theorem ownP_cut {w : World} {B : Nat} (hB : w.heap.size ≤ B) : OwnP B (fun _ => False) (CutJ w) := fun s W W' row h hg hr => by
  obtain ⟨v, hv, ho⟩ := h.box
  have hcell : ∀ {b : Nat} {cs : Array Value} {t : TypeId}, W.heap[b]? = some (.cells cs t (0, 0)) → W'.heap[b]? = some (.cells cs t (0, 0)) := fun {b cs t} hb => (hg.block b (Array.getElem?_eq_some_iff.1 hb).1 (fun e => by
      rcases hr b e.symm with ⟨_, o, ho, hc⟩ | h
      · rw [hb] at ho; cases ho; cases hc
      · exact h)).trans hb
  refine ⟨h.below.grown hg h.below.size (fun k e => by rcases hr k e with h | h; exact Nat.le_trans hB h.1; exact h.elim), Nat.le_trans h.size hg.size, ⟨v, hcell hv, ho.kept hg (row_ne ho (fun r e => ?_))⟩, hcell h.used⟩
  rcases hr r e with ⟨_, o, ho, hc⟩ | h
  · exact ⟨o, ho, fun cur e => by rw [e] at hc; cases hc⟩
  · exact h.elim
/-- What Cut hands back. -/
def CutPost (w : World) (s : Bytes) (e : Ending) (w' : World) : Prop := ∃ v, e = .returned (.tuple #[v, .string ⟨(linesB s).2.toArray⟩]) ∧ w'.ownsRow (w.heap.size + 3) 9 1 v (linesB s).1.length ((linesB s).1.map str)

set_option maxRecDepth 100000 in
set_option maxHeartbeats 2000000 in
theorem cut_any (s : Bytes) (w : World) (hs : s.length ≤ 1000000) (hg : Glob w) :
    Calls Tryz.prog 254 #[.string ⟨s.toArray⟩] w fun e w' => CutPost w s e w' ∧ Below w.heap.size w w' := by
  obtain ⟨i0, hi0, hz0, hz1, hz2⟩ := info_parts infoStr
  have hgl : 1 < w.heap.size := by obtain ⟨m, hm⟩ := hg; exact cell_lt hm
  refine (callsIn_wide (n := 8)).1 ?_
  refine callsIn_of_wp_marks Tryz.func254 rfl trivial ?_ rfl
  simp only [Tryz.ntmps254, List.size_toArray, List.length_cons, List.length_nil, Nat.reduceAdd, Nat.reduceSub, Array.replicate_succ, Array.replicate_zero, List.push_toArray, List.append_toArray, List.nil_append, List.cons_append]
  gi_wp2_with fail
  refine ⟨trivial, (whole_in 7 ⟨s.toArray⟩ _).mono ?_⟩
  rintro e w' ⟨rfl, hw⟩
  have hs1 : w'.heap.size = w.heap.size + 3 := by rw [← hw]; simp
  have hb0 : w'.heap[w.heap.size]? = some (.cells #[.slice none 0 0] 81 (0, 0)) := by rw [← hw, ha_ne (by simp; omega), ha_ne (by simp), ha_eq rfl]
  have hb1 : w'.heap[w.heap.size + 1]? = some (.cells #[.int .i64 0] 3 (0, 0)) := by rw [← hw, ha_ne (by simp), ha_eq (by simp)]
  have hb2 : w'.heap[w.heap.size + 2]? = some (.cells #[str s] 9 (0, 0)) := by rw [← hw]; exact ha_eq (by simp)
  have hbl : Below w.heap.size w w' := by rw [← hw]; exact (((Below.refl _ _).alloc (Nat.le_refl _) _).alloc (by simp) _).alloc (by simp; omega) _
  have hg' := hg.below hbl hgl
  simp only [World.size_alloc]
  clear hw
  gi_wp2_with fail
  have HD := Lib.hid (And.intro hb0 (And.intro hb1 (And.intro hb2 hg')))
  clear hb0 hb1 hb2 hg'
  refine wpIn_rangeFunc_Q (w0 := w') (encs := liE) (Kb := KB w.heap.size (w.heap.size + 2)) (Pb := fun _ => False) rfl (by decide) (gf := 272) (lb := #[.pointer (some ⟨w.heap.size + 2, 0, none⟩)]) rfl trivial (enters_of Tryz.func272 (by kernel_rfl) rfl)
    (whole_stops 7 (w.heap.size + 2) w.heap.size s hs hgl (by omega) w' HD.out.2.2.1 HD.out.2.2.2)
    (Below.refl _ _) (fun _ => rfl) (fun r hr => by rcases hr with h | h <;> omega) (fun r hr => hr.elim)
    (CutJ w) (fun _ _ _ => False) (ownP_cut (by omega)) (fun c => fun _ _ _ _ h _ _ => h)
    ⟨hbl, by omega, ⟨_, HD.out.1, ⟨rfl, .inl ⟨rfl, rfl⟩⟩⟩, HD.out.2.1⟩ ?a1 ?assign ?body ?done ?stop
  case assign =>
    intro l x W K hK
    unfold liE str
    gi_wp2
    exact hK
  case stop =>
    intro D c pre W hD _ hf hK
    exact hf.elim
  case body =>
    intro l pre x W hI hlen
    obtain ⟨v, hv, ho⟩ := hI.box
    obtain ⟨c1, f1⟩ := box_cell hv
    obtain ⟨c2, f2⟩ := box_cell hI.used
    have hHI := Lib.hid (And.intro hI.below (And.intro hI.used (And.intro hv ho)))
    have hHW := Lib.hid hI.size
    clear hI hv ho
    gi_wp2_with (gi_at_builtin; refine Bx.h ?_)
    refine ⟨?_⟩
    refine wpListIn_append_own _ rfl _ _ 81 rfl (w.heap.size + 3) 9 i0 (.string ⟨#[]⟩) 1 16 Tryz.underlying81 hi0 hz0 hz1 hz2 rfl (by decide) _ _ _ rfl (hHI.out.2.2.2.alloc _) ⟨W.heap.size, 0, none⟩ 1 1 [.string ⟨x.1.toArray⟩] rfl rfl (cell_list1 rfl) (by simp [Value.oneCell']) (by unfold maxLen; omega) (by omega) (by have := hHW.out; simp; omega) ?_
    intro v' w3 hown3 hgrow3 hnil3
    replace hgrow3 : (W.alloc _).grownBy w3 v.ownBlock := hgrow3
    clear hnil3
    obtain ⟨hb, hu, hv, ho⟩ := hHI.out
    obtain ⟨g', cap', rfl⟩ : ∃ g' cap', v' = .slice (some ⟨g', 0, none⟩) (pre.length + 1) cap' := by
      rcases hown3.2 with ⟨_, h0⟩ | ⟨g, cap, _, h, _⟩
      · exact absurd h0 (by omega)
      · exact ⟨g, cap, h⟩
    have hBs : w.heap.size + 3 ≤ W.heap.size := by have := hHW.out; omega
    have hrne : ∀ b, b < w.heap.size + 3 → v.ownBlock ≠ some b := fun b hb' e => by
      have := (ho.lt b e).1; omega
    have hx : W.grownBy w3 v.ownBlock := World.grownBy.trans (World.grownBy_alloc _ _ _) hgrow3
    have hv3 : w3.heap[w.heap.size]? = some (.cells #[v] 81 (0, 0)) := (hx.block w.heap.size (by omega) (fun e => hrne _ (by omega) e.symm)).trans hv
    have hu3 : w3.heap[w.heap.size + 1]? = some (.cells #[.int .i64 (lastAt pre : Int)] 3 (0, 0)) := (hx.block (w.heap.size + 1) (by omega) (fun e => hrne _ (by omega) e.symm)).trans hu
    obtain ⟨c3, f3⟩ := box_cell hv3
    obtain ⟨c4, f4⟩ := box_cell hu3
    have hw3 : KeepsOthers W w3 := KeepsOthers.of_grownBy hx (row_cells ho)
    have hkp : KeepsPriv (KB w.heap.size (w.heap.size + 2)) W w3 := ⟨hx.size, fun r hr => hx.block r (by rcases hr with h | h <;> omega) (fun e => hrne r (by rcases hr with h | h <;> omega) e.symm)⟩
    have hb3 : Below w.heap.size w w3 := hb.grown hx hb.size (fun k e => Nat.le_trans (by omega) (ho.lt k e).1)
    have hH3 := Lib.hid (And.intro hw3 (And.intro hb3 (And.intro hv3 (And.intro hu3 (And.intro hown3 hkp)))))
    clear hown3 hgrow3 hb hu hv ho hrne hv3 hu3 hx hw3 hb3 hkp c1 f1 c2 f2 hHI
    gi_wp2
    have hs1 := grown_set w3 w.heap.size (.slice (some ⟨g', 0, none⟩) (pre.length + 1) cap')
    have hs2 := grown_set (w3.setCell ⟨w.heap.size, 0, none⟩ (.slice (some ⟨g', 0, none⟩) (pre.length + 1) cap')) (w.heap.size + 1) (.int .i64 (x.2 : Int))
    have hown := hH3.out.2.2.2.2.1
    have hr0 : ∀ b, b < w.heap.size + 3 → (Value.slice (some ⟨g', 0, none⟩) (pre.length + 1) cap').ownBlock = none ∨ (Value.slice (some ⟨g', 0, none⟩) (pre.length + 1) cap').ownBlock ≠ some b := fun b hb' => .inr fun e => by
      have := (hown.lt b e).1; omega
    have hb5 : Below w.heap.size w _ := (hH3.out.2.1.setCell (p := ⟨w.heap.size, 0, none⟩) (Nat.le_refl _) (.slice (some ⟨g', 0, none⟩) (pre.length + 1) cap')).setCell (p := ⟨w.heap.size + 1, 0, none⟩) (by simp) (.int .i64 (x.2 : Int))
    have hbx := box_other (.int .i64 (x.2 : Int)) (box_set (.slice (some ⟨g', 0, none⟩) (pre.length + 1) cap') hH3.out.2.2.1) (show w.heap.size ≠ w.heap.size + 1 by omega)
    have hus := box_set (.int .i64 (x.2 : Int)) (box_other (.slice (some ⟨g', 0, none⟩) (pre.length + 1) cap') hH3.out.2.2.2.1 (show w.heap.size + 1 ≠ w.heap.size by omega))
    have hkp5 := (hH3.out.2.2.2.2.2.trans (keepsPriv_set (W := w3) (b := w.heap.size) (v := .slice (some ⟨g', 0, none⟩) (pre.length + 1) cap') (fun h => by rcases h with h | h <;> omega))).trans (keepsPriv_set (b := w.heap.size + 1) (v := .int .i64 (x.2 : Int)) (fun h => by rcases h with h | h <;> omega))
    refine ⟨((hH3.out.1.trans (KeepsOthers.setCell _ _ _)).trans (KeepsOthers.setCell _ _ _)).from _, hkp5, hb5, ?_, ⟨_, hbx, ?_⟩, ?_⟩
    · exact Nat.le_trans hBs (by have h1 := hH3.out.1.size; simpa [World.setCell] using h1)
    · have := (hown.kept hs1 (hr0 _ (by omega))).kept hs2 (hr0 _ (by omega))
      rw [List.length_append, List.map_append]
      exact this
    · rw [hus]
      simp [lastAt]
  case done =>
    intro D xs W hD hS hI hK
    obtain ⟨v, hv, ho⟩ := hI.box
    obtain ⟨p, c, rfl⟩ : ∃ p c, v = .slice p xs.length c := by
      rcases ho.2 with ⟨rfl, h0⟩ | ⟨g, cap, cur, rfl, _⟩
      · exact ⟨none, 0, by rw [h0]⟩
      · exact ⟨_, _, rfl⟩
    obtain ⟨c1, f1⟩ := box_cell hv
    obtain ⟨c2, f2⟩ := box_cell hI.used
    have hsame : W.setCell ⟨w.heap.size, 0, none⟩ (.slice p xs.length c) = W := setCell_same hv rfl
    have hle := hS.2
    have hex := extract_drop s (lastAt xs) s.length rfl
    have hszs : (⟨s.toArray⟩ : ByteArray).size = s.length := rfl
    have hH := Lib.hid (And.intro hI.below (And.intro hv (And.intro ho hS.1)))
    clear hI hv ho hS
    gi_wp2
    gi_region
    gi_wp2
    have hKd : W.drew.heap[D]? = some (.deferred (some [])) := hK
    refine ⟨by simp, .inl ⟨_, _, rfl, run_takeDeferred hKd, ?_⟩⟩
    have hg := World.grownBy.trans (grown_drewN W 1 (some D)) (grown_put W.drew D)
    have hv2 : (W.drew.putObj D (.deferred none)).heap[w.heap.size]? = some (.cells #[.slice p xs.length c] 81 (0, 0)) := (World.putObj_heap_other (by omega)).trans hH.out.2.1
    have hcl := (box_cell hv2).1
    have hbe : Below w.heap.size w W.drew := hH.out.1.trans ⟨rfl, rfl, rfl, Nat.le_refl _, fun _ _ => rfl⟩
    refine ⟨.tuple #[.slice p xs.length c, .string ⟨(s.drop (lastAt xs)).toArray⟩], by simp [results, Tryz.results254, go_sem, hcl], ⟨_, by rw [hH.out.2.2.2], ?_⟩, hbe.trans (belowK_b (w := w) (Nat.le_refl _) _ D _ _ (by omega) hKd rfl rfl)⟩
    rw [hH.out.2.2.2]
    have hn : (Value.slice p xs.length c).ownBlock = none ∨ (Value.slice p xs.length c).ownBlock ≠ some D := row_ne hH.out.2.2.1 (fun r e => by cases e; exact ⟨_, hK, fun cur e => by cases e⟩)
    have := hH.out.2.2.1.kept hg hn
    rw [List.length_map, List.map_map]
    exact this
end Go.Proofs.YtlpngibdplnieaaGreatDoor
