/- The laws' own helper: some. -/
import Derived.Test.YtdlpdpelhkgnlaaGreatDoorEmk
import Derived.Test.YtdlpdpelhkgnlaaGreatDoorEful
namespace Go.Proofs.YtdlpdpelhkgnlaaGreatDoor
open Go Go.RowKit Go.Shelf Go.Sort
attribute [local go_sem] bneI

def someM : MailP := ⟨[97, 64, 98, 46, 99], [([120, 64, 100, 46, 101], false)], false, [], []⟩
def someX : EntP := makeN 7 100 someM
theorem someShort : ShortM someM := ⟨by decide, by decide, by decide, by decide, by decide⟩
set_option maxRecDepth 100000 in
set_option maxHeartbeats 4000000 in
theorem some_any (w : World) (hE : Env w) : Calls Tryz.prog 28 #[] w fun e w' => CopyPost w someX e w' ∧ Below w.heap.size w w' := by
  obtain ⟨W1, hW1⟩ : ∃ W1, W1 = (w.alloc (.cells zeroC 32)).alloc (.cells #[.string ⟨#[120, 64, 100, 46, 101]⟩, .bool false] 57) := ⟨_, rfl⟩
  have hB1 : Below w.heap.size w W1 := by rw [hW1]; exact ((Below.refl _ w).alloc (Nat.le_refl _) _).alloc (by simp) _
  have hb0 : W1.heap[w.heap.size]? = some (.cells zeroC 32 (0, 0)) := by rw [hW1]; exact (ha_ne (by simp)).trans (ha_eq rfl)
  have hb1 : W1.heap[w.heap.size + 1]? = some (.cells #[.string ⟨#[120, 64, 100, 46, 101]⟩, .bool false] 57 (0, 0)) := by rw [hW1]; exact ha_eq (by simp)
  have hr : RowK 2 rcE W1 (.slice (some ⟨w.heap.size + 1, 0, none⟩) 1 1) someM.rcpts := by
    refine ⟨some ⟨w.heap.size + 1, 0, none⟩, 1, rfl, Nat.le_refl _, fun _ => ⟨w.heap.size + 1, 0, rfl, fun i hi j u hu => ?_⟩⟩
    have hi0 : i = 0 := by
      have : someM.rcpts.length = 1 := rfl
      omega
    subst hi0
    have hu2 : ([.string ⟨#[120, 64, 100, 46, 101]⟩, .bool false] : List Value)[j]? = some u := hu
    simp only [World.cell?, hb1]
    show (#[Value.string ⟨#[120, 64, 100, 46, 101]⟩, Value.bool false] : Array Value)[0 + 0 * 2 + j]? = some u
    rw [show 0 + 0 * 2 + j = j by omega, ← Array.getElem?_toList]
    exact hu2
  have hMk := make_any 7 100 someM _ W1 hr someShort (hE.keep hB1)
  unfold mailV mailC at hMk
  have hMk : Calls Tryz.prog 11 #[.int .i64 7, .int .i64 100, .agg #[.string ⟨#[97, 64, 98, 46, 99]⟩, .slice (some ⟨w.heap.size + 1, 0, none⟩) 1 1, .bool false, .string ⟨#[]⟩, .string ⟨#[]⟩]] W1 fun e w' => CopyPost W1 someX e w' ∧ Below W1.heap.size W1 w' := hMk
  have HB := Lib.hid (And.intro hB1 hb0)
  clear hB1 hb0 hb1 hr hE
  go_enter Tryz.func28, Tryz.ntmps28
  unfold zeroC at hW1
  go_wp2_with fail
  rw [← hW1]
  clear hW1
  refine hMk.mono ?_
  rintro e w2 ⟨⟨sv, fv, jv, rfl, hown⟩, hb2⟩
  clear hMk
  change OwnE w2 W1.heap.size someX sv fv jv at hown
  obtain ⟨p1, c1, rfl⟩ := own_shape hown.rc
  obtain ⟨p2, c2, rfl⟩ := own_shape hown.fa
  obtain ⟨p3, c3, rfl⟩ := own_shape hown.jo
  have hzx : w2.heap[w.heap.size]? = some (.cells zeroC 32 (0, 0)) := (hb2.block _ (lt_of_cells HB.out.2)).trans HB.out.2
  have HZ := Lib.hid (And.intro hzx (And.intro hown hb2))
  unfold zeroC at hzx
  obtain ⟨g0, g1, g2, g3, g4, g5, g6, g7, g8, g9⟩ := eboxAll hzx
  have f0 := efroz hzx 0
  have f1 := efroz hzx 1
  have f2 := efroz hzx 2
  have f3 := efroz hzx 3
  have f4 := efroz hzx 4
  have f5 := efroz hzx 5
  have f6 := efroz hzx 6
  have f7 := efroz hzx 7
  have f8 := efroz hzx 8
  have f9 := efroz hzx 9
  clear hzx hown hb2
  unfold entV entC
  go_wp2
  have hb0 := HZ.out.1
  have hle : w.heap.size ≤ W1.heap.size := HB.out.1.size
  have hB7 := setAll_below (HB.out.1.trans (HZ.out.2.2.mono hle)) (Nat.le_refl w.heap.size) (.int .i64 someX.id) (.int .i64 someX.at_) (.string ⟨someX.mail.sender.toArray⟩) (.slice p1 someX.mail.rcpts.length c1) (.bool someX.mail.req) (.string ⟨someX.mail.envid.toArray⟩) (.string ⟨someX.mail.text.toArray⟩) (.bool someX.plain) (.slice p2 someX.fates.length c2) (.slice p3 someX.jobs.length c3)
  have ho7 : OwnE (setAll w2 w.heap.size (.int .i64 someX.id) (.int .i64 someX.at_) (.string ⟨someX.mail.sender.toArray⟩) (.slice p1 someX.mail.rcpts.length c1) (.bool someX.mail.req) (.string ⟨someX.mail.envid.toArray⟩) (.string ⟨someX.mail.text.toArray⟩) (.bool someX.plain) (.slice p2 someX.fates.length c2) (.slice p3 someX.jobs.length c3)) w.heap.size someX (.slice p1 someX.mail.rcpts.length c1) (.slice p2 someX.fates.length c2) (.slice p3 someX.jobs.length c3) := ⟨ownsRow_less (own_set HZ.out.2.1.rc hb0 (by decide) _ _ _ _ _ _ _ _ _ _) hle, ownsRow_less (own_set HZ.out.2.1.fa hb0 (by decide) _ _ _ _ _ _ _ _ _ _) hle, ownsRow_less (own_set HZ.out.2.1.jo hb0 (by decide) _ _ _ _ _ _ _ _ _ _) hle⟩
  unfold zeroC at hb0
  have hb7 := setAll_box hb0 (.int .i64 someX.id) (.int .i64 someX.at_) (.string ⟨someX.mail.sender.toArray⟩) (.slice p1 someX.mail.rcpts.length c1) (.bool someX.mail.req) (.string ⟨someX.mail.envid.toArray⟩) (.string ⟨someX.mail.text.toArray⟩) (.bool someX.plain) (.slice p2 someX.fates.length c2) (.slice p3 someX.jobs.length c3)
  clear hb0 g0 g1 g2 g3 g4 g5 g6 g7 g8 g9 f0 f1 f2 f3 f4 f5 f6 f7 f8 f9
  unfold setAll at hb7 hB7 ho7
  generalize hW7 : World.setCell (World.setCell (World.setCell (World.setCell (World.setCell (World.setCell (World.setCell (World.setCell (World.setCell (World.setCell w2 _ _) _ _) _ _) _ _) _ _) _ _) _ _) _ _) _ _) _ _ = W7 at hb7 hB7 ho7 ⊢
  clear hW7
  obtain ⟨t0, t1, t2, t3, t4, t5, t6, t7, t8, t9⟩ := eboxAll hb7
  clear hb7
  refine bodyPost_ret (v := entV someX (.slice p1 someX.mail.rcpts.length c1) (.slice p2 someX.fates.length c2) (.slice p3 someX.jobs.length c3)) (by simp [results, Tryz.results28, go_sem, t0, t1, t2, t3, t4, t5, t6, t7, t8, t9, entV, entC]) rfl ⟨⟨_, _, _, rfl, ho7⟩, hB7⟩
end Go.Proofs.YtdlpdpelhkgnlaaGreatDoor
