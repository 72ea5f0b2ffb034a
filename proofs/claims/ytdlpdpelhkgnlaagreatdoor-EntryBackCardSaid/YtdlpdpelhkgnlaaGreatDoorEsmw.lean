/- entry.Same of entries that read alike. -/
import Derived.Test.YtdlpdpelhkgnlaaGreatDoorEsame
namespace Go.Proofs.YtdlpdpelhkgnlaaGreatDoor
open Go Go.RowKit Go.Shelf Go.Sort
attribute [local go_sem] bneI

/-- The two mails in their boxes. -/
structure TwoM (W1 : World) (m : MailP) (u v : Value) (b5 b6 : Nat) (W : World) : Prop where
  below : Below W1.heap.size W1 W
  one : W.heap[b5]? = some (.cells (mailC m u).toArray 24 (0, 0))
  two : W.heap[b6]? = some (.cells (mailC m v).toArray 24 (0, 0))
theorem drew_heap (W : World) : W.drew.heap = W.heap := rfl
theorem TwoM.mk12 (W1 : World) (m : MailP) (u v : Value) : TwoM W1 m u v W1.heap.size (W1.heap.size + 1) ((W1.alloc (.cells (mailC m u).toArray 24)).alloc (.cells (mailC m v).toArray 24)).drew := by
  have z : ∀ (W : World) (o : Obj), (W.alloc o).heap.size = W.heap.size + 1 := fun W o => by show (W.heap.push o).size = _; exact Array.size_push _
  have hb := ((Below.refl _ W1).alloc (Nat.le_refl _) (.cells (mailC m u).toArray 24)).alloc (by rw [z]; omega) (.cells (mailC m v).toArray 24)
  refine ⟨hb.trans ((below_drew _).mono hb.size), ?_, ?_⟩
  · rw [drew_heap, ha_ne (by rw [z]; omega)]
    exact ha_eq rfl
  · rw [drew_heap]
    exact ha_eq (by rw [z])
theorem TwoM.mk21 (W1 : World) (m : MailP) (u v : Value) : TwoM W1 m u v (W1.heap.size + 1) W1.heap.size ((W1.alloc (.cells (mailC m v).toArray 24)).alloc (.cells (mailC m u).toArray 24)).drew := by
  have z : ∀ (W : World) (o : Obj), (W.alloc o).heap.size = W.heap.size + 1 := fun W o => by show (W.heap.push o).size = _; exact Array.size_push _
  have hb := ((Below.refl _ W1).alloc (Nat.le_refl _) (.cells (mailC m v).toArray 24)).alloc (by rw [z]; omega) (.cells (mailC m u).toArray 24)
  refine ⟨hb.trans ((below_drew _).mono hb.size), ?_, ?_⟩
  · rw [drew_heap]
    exact ha_eq (by rw [z])
  · rw [drew_heap, ha_ne (by rw [z]; omega)]
    exact ha_eq rfl
set_option maxRecDepth 100000 in
set_option maxHeartbeats 8000000 in
theorem esame_any (x : EntP) (s1 f1 j1 s2 f2 j2 : Value) (w : World) (h1 : EntAt w x s1 f1 j1) (h2 : EntAt w x s2 f2 j2) (hs : ShortE x) :
    Calls Tryz.prog 22 #[entV x s1 f1 j1, entV x s2 f2 j2] w fun e w' => e = .returned (.bool true) ∧ Below w.heap.size w w' := by
  obtain ⟨p1, c1, rfl, -⟩ := h1.rc.sh
  obtain ⟨q1, d1, rfl, -⟩ := h1.fa.sh
  obtain ⟨r1, e1, rfl, -⟩ := h1.jo.sh
  obtain ⟨p2, c2, rfl, -⟩ := h2.rc.sh
  obtain ⟨q2, d2, rfl, -⟩ := h2.fa.sh
  obtain ⟨r2, e2, rfl, -⟩ := h2.jo.sh
  obtain ⟨W1, hW1⟩ : ∃ W1, W1 = (w.alloc (.cells (entC x (.slice p1 x.mail.rcpts.length c1) (.slice q1 x.fates.length d1) (.slice r1 x.jobs.length e1)).toArray 32)).alloc (.cells (entC x (.slice p2 x.mail.rcpts.length c2) (.slice q2 x.fates.length d2) (.slice r2 x.jobs.length e2)).toArray 32) := ⟨_, rfl⟩
  have z : ∀ (W : World) (o : Obj), (W.alloc o).heap.size = W.heap.size + 1 := fun W o => by show (W.heap.push o).size = _; exact Array.size_push _
  have hB1 : Below w.heap.size w W1 := by rw [hW1]; exact ((Below.refl _ w).alloc (Nat.le_refl _) _).alloc (by rw [z]; omega) _
  have hb1 : W1.heap[w.heap.size]? = some (.cells (entC x (.slice p1 x.mail.rcpts.length c1) (.slice q1 x.fates.length d1) (.slice r1 x.jobs.length e1)).toArray 32 (0, 0)) := by rw [hW1]; exact (ha_ne (by rw [z]; omega)).trans (ha_eq rfl)
  have hb2 : W1.heap[w.heap.size + 1]? = some (.cells (entC x (.slice p2 x.mail.rcpts.length c2) (.slice q2 x.fates.length d2) (.slice r2 x.jobs.length e2)).toArray 32 (0, 0)) := by rw [hW1]; exact ha_eq (by rw [z])
  have HX := Lib.hid (And.intro h1 (And.intro h2 (And.intro hs (And.intro hB1 (And.intro hb1 hb2)))))
  unfold entV
  unfold entC at hW1 hb1 hb2 ⊢
  obtain ⟨x0, x1, x2, x3, x4, x5, x6, x7, x8, x9⟩ := eboxAll hb1
  obtain ⟨y0, y1, y2, y3, y4, y5, y6, y7, y8, y9⟩ := eboxAll hb2
  clear h1 h2 hs hB1 hb1 hb2 z
  go_enter Tryz.func22, Tryz.ntmps22
  go_upto_region 1 with (fail)
  rw [← hW1]
  clear hW1
  go_cut [5, 6] (fun s5 s6 w' => ∃ b5 b6, s5 = .pointer (some ⟨b5, 0, none⟩) ∧ s6 = .pointer (some ⟨b6, 0, none⟩) ∧ TwoM W1 x.mail (.slice p1 x.mail.rcpts.length c1) (.slice p2 x.mail.rcpts.length c2) b5 b6 w')
  case first =>
    have z : ∀ (W : World) (o : Obj), (W.alloc o).heap.size = W.heap.size + 1 := fun W o => by show (W.heap.push o).size = _; exact Array.size_push _
    have ax0 : ∀ o o', ((W1.alloc o).alloc o').cell? ⟨w.heap.size, 2, none⟩ = some (.string ⟨x.mail.sender.toArray⟩) := fun o o' => (((Below.refl _ W1).alloc (Nat.le_refl _) o).alloc (by rw [z]; omega) o').cell (p := ⟨_, _, none⟩) (cell_lt x2) |>.trans x2
    have cx0 : ∀ o, (W1.alloc o).cell? ⟨w.heap.size, 2, none⟩ = some (.string ⟨x.mail.sender.toArray⟩) := fun o => ((Below.refl _ W1).alloc (Nat.le_refl _) o).cell (p := ⟨_, _, none⟩) (cell_lt x2) |>.trans x2
    have ax1 : ∀ o o', ((W1.alloc o).alloc o').cell? ⟨w.heap.size, 3, none⟩ = some (.slice p1 x.mail.rcpts.length c1) := fun o o' => (((Below.refl _ W1).alloc (Nat.le_refl _) o).alloc (by rw [z]; omega) o').cell (p := ⟨_, _, none⟩) (cell_lt x3) |>.trans x3
    have cx1 : ∀ o, (W1.alloc o).cell? ⟨w.heap.size, 3, none⟩ = some (.slice p1 x.mail.rcpts.length c1) := fun o => ((Below.refl _ W1).alloc (Nat.le_refl _) o).cell (p := ⟨_, _, none⟩) (cell_lt x3) |>.trans x3
    have ax2 : ∀ o o', ((W1.alloc o).alloc o').cell? ⟨w.heap.size, 4, none⟩ = some (.bool x.mail.req) := fun o o' => (((Below.refl _ W1).alloc (Nat.le_refl _) o).alloc (by rw [z]; omega) o').cell (p := ⟨_, _, none⟩) (cell_lt x4) |>.trans x4
    have cx2 : ∀ o, (W1.alloc o).cell? ⟨w.heap.size, 4, none⟩ = some (.bool x.mail.req) := fun o => ((Below.refl _ W1).alloc (Nat.le_refl _) o).cell (p := ⟨_, _, none⟩) (cell_lt x4) |>.trans x4
    have ax3 : ∀ o o', ((W1.alloc o).alloc o').cell? ⟨w.heap.size, 5, none⟩ = some (.string ⟨x.mail.envid.toArray⟩) := fun o o' => (((Below.refl _ W1).alloc (Nat.le_refl _) o).alloc (by rw [z]; omega) o').cell (p := ⟨_, _, none⟩) (cell_lt x5) |>.trans x5
    have cx3 : ∀ o, (W1.alloc o).cell? ⟨w.heap.size, 5, none⟩ = some (.string ⟨x.mail.envid.toArray⟩) := fun o => ((Below.refl _ W1).alloc (Nat.le_refl _) o).cell (p := ⟨_, _, none⟩) (cell_lt x5) |>.trans x5
    have ax4 : ∀ o o', ((W1.alloc o).alloc o').cell? ⟨w.heap.size, 6, none⟩ = some (.string ⟨x.mail.text.toArray⟩) := fun o o' => (((Below.refl _ W1).alloc (Nat.le_refl _) o).alloc (by rw [z]; omega) o').cell (p := ⟨_, _, none⟩) (cell_lt x6) |>.trans x6
    have cx4 : ∀ o, (W1.alloc o).cell? ⟨w.heap.size, 6, none⟩ = some (.string ⟨x.mail.text.toArray⟩) := fun o => ((Below.refl _ W1).alloc (Nat.le_refl _) o).cell (p := ⟨_, _, none⟩) (cell_lt x6) |>.trans x6
    have ay0 : ∀ o o', ((W1.alloc o).alloc o').cell? ⟨w.heap.size + 1, 2, none⟩ = some (.string ⟨x.mail.sender.toArray⟩) := fun o o' => (((Below.refl _ W1).alloc (Nat.le_refl _) o).alloc (by rw [z]; omega) o').cell (p := ⟨_, _, none⟩) (cell_lt y2) |>.trans y2
    have cy0 : ∀ o, (W1.alloc o).cell? ⟨w.heap.size + 1, 2, none⟩ = some (.string ⟨x.mail.sender.toArray⟩) := fun o => ((Below.refl _ W1).alloc (Nat.le_refl _) o).cell (p := ⟨_, _, none⟩) (cell_lt y2) |>.trans y2
    have ay1 : ∀ o o', ((W1.alloc o).alloc o').cell? ⟨w.heap.size + 1, 3, none⟩ = some (.slice p2 x.mail.rcpts.length c2) := fun o o' => (((Below.refl _ W1).alloc (Nat.le_refl _) o).alloc (by rw [z]; omega) o').cell (p := ⟨_, _, none⟩) (cell_lt y3) |>.trans y3
    have cy1 : ∀ o, (W1.alloc o).cell? ⟨w.heap.size + 1, 3, none⟩ = some (.slice p2 x.mail.rcpts.length c2) := fun o => ((Below.refl _ W1).alloc (Nat.le_refl _) o).cell (p := ⟨_, _, none⟩) (cell_lt y3) |>.trans y3
    have ay2 : ∀ o o', ((W1.alloc o).alloc o').cell? ⟨w.heap.size + 1, 4, none⟩ = some (.bool x.mail.req) := fun o o' => (((Below.refl _ W1).alloc (Nat.le_refl _) o).alloc (by rw [z]; omega) o').cell (p := ⟨_, _, none⟩) (cell_lt y4) |>.trans y4
    have cy2 : ∀ o, (W1.alloc o).cell? ⟨w.heap.size + 1, 4, none⟩ = some (.bool x.mail.req) := fun o => ((Below.refl _ W1).alloc (Nat.le_refl _) o).cell (p := ⟨_, _, none⟩) (cell_lt y4) |>.trans y4
    have ay3 : ∀ o o', ((W1.alloc o).alloc o').cell? ⟨w.heap.size + 1, 5, none⟩ = some (.string ⟨x.mail.envid.toArray⟩) := fun o o' => (((Below.refl _ W1).alloc (Nat.le_refl _) o).alloc (by rw [z]; omega) o').cell (p := ⟨_, _, none⟩) (cell_lt y5) |>.trans y5
    have cy3 : ∀ o, (W1.alloc o).cell? ⟨w.heap.size + 1, 5, none⟩ = some (.string ⟨x.mail.envid.toArray⟩) := fun o => ((Below.refl _ W1).alloc (Nat.le_refl _) o).cell (p := ⟨_, _, none⟩) (cell_lt y5) |>.trans y5
    have ay4 : ∀ o o', ((W1.alloc o).alloc o').cell? ⟨w.heap.size + 1, 6, none⟩ = some (.string ⟨x.mail.text.toArray⟩) := fun o o' => (((Below.refl _ W1).alloc (Nat.le_refl _) o).alloc (by rw [z]; omega) o').cell (p := ⟨_, _, none⟩) (cell_lt y6) |>.trans y6
    have cy4 : ∀ o, (W1.alloc o).cell? ⟨w.heap.size + 1, 6, none⟩ = some (.string ⟨x.mail.text.toArray⟩) := fun o => ((Below.refl _ W1).alloc (Nat.le_refl _) o).cell (p := ⟨_, _, none⟩) (cell_lt y6) |>.trans y6
    clear z
    go_region
    all_goals clear ax0 ax1 ax2 ax3 ax4 ay0 ay1 ay2 ay3 ay4 cx0 cx1 cx2 cx3 cx4 cy0 cy1 cy2 cy3 cy4
    all_goals go_wp2
    all_goals go_meet
    all_goals first | exact ⟨_, _, rfl, rfl, TwoM.mk12 _ _ _ _⟩ | exact ⟨_, _, rfl, rfl, TwoM.mk21 _ _ _ _⟩
  case rest =>
    obtain ⟨b5, b6, rfl, rfl, h2⟩ := hcut
    have hb5 := h2.one
    have hb6 := h2.two
    unfold mailC at hb5 hb6
    obtain ⟨m0, m1, m2, m3, m4⟩ := mbox hb5
    obtain ⟨n0, n1, n2, n3, n4⟩ := mbox hb6
    have hbw := h2.below
    have hEA := HX.out.1.below (HX.out.2.2.2.1.trans (hbw.mono HX.out.2.2.2.1.size))
    have hEB := HX.out.2.1.below (HX.out.2.2.2.1.trans (hbw.mono HX.out.2.2.2.1.size))
    have hs := HX.out.2.2.1
    have qx0 := (hbw.cell (p := ⟨_, _, none⟩) (cell_lt x0)).trans x0
    have qy0 := (hbw.cell (p := ⟨_, _, none⟩) (cell_lt y0)).trans y0
    have qx1 := (hbw.cell (p := ⟨_, _, none⟩) (cell_lt x1)).trans x1
    have qy1 := (hbw.cell (p := ⟨_, _, none⟩) (cell_lt y1)).trans y1
    have qx2 := (hbw.cell (p := ⟨_, _, none⟩) (cell_lt x2)).trans x2
    have qy2 := (hbw.cell (p := ⟨_, _, none⟩) (cell_lt y2)).trans y2
    have qx3 := (hbw.cell (p := ⟨_, _, none⟩) (cell_lt x3)).trans x3
    have qy3 := (hbw.cell (p := ⟨_, _, none⟩) (cell_lt y3)).trans y3
    have qx4 := (hbw.cell (p := ⟨_, _, none⟩) (cell_lt x4)).trans x4
    have qy4 := (hbw.cell (p := ⟨_, _, none⟩) (cell_lt y4)).trans y4
    have qx5 := (hbw.cell (p := ⟨_, _, none⟩) (cell_lt x5)).trans x5
    have qy5 := (hbw.cell (p := ⟨_, _, none⟩) (cell_lt y5)).trans y5
    have qx6 := (hbw.cell (p := ⟨_, _, none⟩) (cell_lt x6)).trans x6
    have qy6 := (hbw.cell (p := ⟨_, _, none⟩) (cell_lt y6)).trans y6
    have qx7 := (hbw.cell (p := ⟨_, _, none⟩) (cell_lt x7)).trans x7
    have qy7 := (hbw.cell (p := ⟨_, _, none⟩) (cell_lt y7)).trans y7
    have qx8 := (hbw.cell (p := ⟨_, _, none⟩) (cell_lt x8)).trans x8
    have qy8 := (hbw.cell (p := ⟨_, _, none⟩) (cell_lt y8)).trans y8
    have qx9 := (hbw.cell (p := ⟨_, _, none⟩) (cell_lt x9)).trans x9
    have qy9 := (hbw.cell (p := ⟨_, _, none⟩) (cell_lt y9)).trans y9
    clear x0 x1 x2 x3 x4 x5 x6 x7 x8 x9 y0 y1 y2 y3 y4 y5 y6 y7 y8 y9
    have hF := sameFa_any x.fates (.slice q1 x.fates.length d1) (.slice q2 x.fates.length d2) wc hEA.fa hEB.fa hs.fates
    have HF := Lib.hid (And.intro (HX.out.2.2.2.1.trans (hbw.mono HX.out.2.2.2.1.size)) (And.intro hEA (And.intro hEB hs)))
    clear h2 hb5 hb6 hbw hEA hEB hs
    go_wp2_with fail
    refine hF.mono ?_
    rintro e w5 ⟨rfl, hb⟩
    have rx0 := (hb.cell (p := ⟨_, _, none⟩) (cell_lt qx0)).trans qx0
    have ry0 := (hb.cell (p := ⟨_, _, none⟩) (cell_lt qy0)).trans qy0
    have rx1 := (hb.cell (p := ⟨_, _, none⟩) (cell_lt qx1)).trans qx1
    have ry1 := (hb.cell (p := ⟨_, _, none⟩) (cell_lt qy1)).trans qy1
    have rx2 := (hb.cell (p := ⟨_, _, none⟩) (cell_lt qx2)).trans qx2
    have ry2 := (hb.cell (p := ⟨_, _, none⟩) (cell_lt qy2)).trans qy2
    have rx3 := (hb.cell (p := ⟨_, _, none⟩) (cell_lt qx3)).trans qx3
    have ry3 := (hb.cell (p := ⟨_, _, none⟩) (cell_lt qy3)).trans qy3
    have rx4 := (hb.cell (p := ⟨_, _, none⟩) (cell_lt qx4)).trans qx4
    have ry4 := (hb.cell (p := ⟨_, _, none⟩) (cell_lt qy4)).trans qy4
    have rx5 := (hb.cell (p := ⟨_, _, none⟩) (cell_lt qx5)).trans qx5
    have ry5 := (hb.cell (p := ⟨_, _, none⟩) (cell_lt qy5)).trans qy5
    have rx6 := (hb.cell (p := ⟨_, _, none⟩) (cell_lt qx6)).trans qx6
    have ry6 := (hb.cell (p := ⟨_, _, none⟩) (cell_lt qy6)).trans qy6
    have rx7 := (hb.cell (p := ⟨_, _, none⟩) (cell_lt qx7)).trans qx7
    have ry7 := (hb.cell (p := ⟨_, _, none⟩) (cell_lt qy7)).trans qy7
    have rx8 := (hb.cell (p := ⟨_, _, none⟩) (cell_lt qx8)).trans qx8
    have ry8 := (hb.cell (p := ⟨_, _, none⟩) (cell_lt qy8)).trans qy8
    have rx9 := (hb.cell (p := ⟨_, _, none⟩) (cell_lt qx9)).trans qx9
    have ry9 := (hb.cell (p := ⟨_, _, none⟩) (cell_lt qy9)).trans qy9
    have rm0 := (hb.cell (p := ⟨_, _, none⟩) (cell_lt m0)).trans m0
    have rn0 := (hb.cell (p := ⟨_, _, none⟩) (cell_lt n0)).trans n0
    have rm1 := (hb.cell (p := ⟨_, _, none⟩) (cell_lt m1)).trans m1
    have rn1 := (hb.cell (p := ⟨_, _, none⟩) (cell_lt n1)).trans n1
    have rm2 := (hb.cell (p := ⟨_, _, none⟩) (cell_lt m2)).trans m2
    have rn2 := (hb.cell (p := ⟨_, _, none⟩) (cell_lt n2)).trans n2
    have rm3 := (hb.cell (p := ⟨_, _, none⟩) (cell_lt m3)).trans m3
    have rn3 := (hb.cell (p := ⟨_, _, none⟩) (cell_lt n3)).trans n3
    have rm4 := (hb.cell (p := ⟨_, _, none⟩) (cell_lt m4)).trans m4
    have rn4 := (hb.cell (p := ⟨_, _, none⟩) (cell_lt n4)).trans n4
    clear hF qx0 qx1 qx2 qx3 qx4 qx5 qx6 qx7 qx8 qx9 qy0 qy1 qy2 qy3 qy4 qy5 qy6 qy7 qy8 qy9 m0 m1 m2 m3 m4 n0 n1 n2 n3 n4
    have hJ := sameJo_any x.jobs (.slice r1 x.jobs.length e1) (.slice r2 x.jobs.length e2) w5 (HF.out.2.1.below hb).jo (HF.out.2.2.1.below hb).jo HF.out.2.2.2.jobs
    have H5 := Lib.hid hb
    clear hb
    go_wp2_with fail
    refine hJ.mono ?_
    rintro e w6 ⟨rfl, hb⟩
    have tm0 := (hb.cell (p := ⟨_, _, none⟩) (cell_lt rm0)).trans rm0
    have tn0 := (hb.cell (p := ⟨_, _, none⟩) (cell_lt rn0)).trans rn0
    have tm1 := (hb.cell (p := ⟨_, _, none⟩) (cell_lt rm1)).trans rm1
    have tn1 := (hb.cell (p := ⟨_, _, none⟩) (cell_lt rn1)).trans rn1
    have tm2 := (hb.cell (p := ⟨_, _, none⟩) (cell_lt rm2)).trans rm2
    have tn2 := (hb.cell (p := ⟨_, _, none⟩) (cell_lt rn2)).trans rn2
    have tm3 := (hb.cell (p := ⟨_, _, none⟩) (cell_lt rm3)).trans rm3
    have tn3 := (hb.cell (p := ⟨_, _, none⟩) (cell_lt rn3)).trans rn3
    have tm4 := (hb.cell (p := ⟨_, _, none⟩) (cell_lt rm4)).trans rm4
    have tn4 := (hb.cell (p := ⟨_, _, none⟩) (cell_lt rn4)).trans rn4
    clear hJ rx0 rx1 rx2 rx3 rx4 rx5 rx6 rx7 rx8 rx9 ry0 ry1 ry2 ry3 ry4 ry5 ry6 ry7 ry8 ry9 rm0 rm1 rm2 rm3 rm4 rn0 rn1 rn2 rn3 rn4
    have hR := sameRc_any x.mail.rcpts (.slice p1 x.mail.rcpts.length c1) (.slice p2 x.mail.rcpts.length c2) w6 ((HF.out.2.1.below H5.out).below hb).rc ((HF.out.2.2.1.below H5.out).below hb).rc HF.out.2.2.2.mail.rcpts
    have H6 := Lib.hid hb
    clear hb
    go_wp2_with fail
    refine hR.mono ?_
    rintro e w7 ⟨rfl, hb⟩
    have H7 := Lib.hid ((HF.out.1.trans (H5.out.mono HF.out.1.size)).trans ((H6.out.trans (hb.mono H6.out.size)).mono (HF.out.1.trans (H5.out.mono HF.out.1.size)).size))
    clear hb hR tm0 tm1 tm2 tm3 tm4 tn0 tn1 tn2 tn3 tn4
    go_wp2
    refine bodyPost_ret (v := .bool true) (by simp [results, Tryz.results22, go_sem]) rfl ⟨rfl, H7.out⟩
end Go.Proofs.YtdlpdpelhkgnlaaGreatDoor
