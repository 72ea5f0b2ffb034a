/- NoticeNames: the row. -/
import Derived.Test.YtohikcchbjchkaaGreatDoorKcarda
import Derived.ChangeMaps5
namespace Go.Proofs.YtohikcchbjchkaaGreatDoor
open Go Go.ChangeShapes Go.WideShapes Go.ChangeAt Go.RowKit Go.Deep

set_option maxRecDepth 100000
theorem in_k : (Rows.noticeNamesRow.inPlace == Tryz.prog.inPlace 3) = true := by kernel_rfl
theorem un_k : (Rows.noticeNamesRow.unfollowed == Tryz.prog.unfollowed 3) = true := by kernel_rfl
theorem rec_k : (Rows.noticeNamesRow.recurses == Tryz.prog.recurses 3) = true := by kernel_rfl
theorem named_k : (Rows.noticeNamesRow.named == Tryz.prog.varsNamed 3) = true := by kernel_rfl
theorem closed_k : joinedFacts Tryz.prog 3 Tryz.f3 Rows.noticeNamesSpec Rows.noticeNamesRow = true := by
  unfold joinedFacts
  rw [in_k, un_k, rec_k, named_k]
  kernel_rfl
theorem names_said : Rows.NoticeNamesSaid :=
  OpenClaim.holds_of_wide 3 Tryz.f3 rfl rfl rfl rfl rfl rfl rfl ⟨rfl, rfl, rfl, rfl, rfl⟩ rfl rfl rfl rfl rfl (by kernel_rfl) Tryz.func3 closed_k
    (of_decide_eq_true (by kernel_rfl)) (by unfold Func.isWrapper; first | (rw [if_pos (by decide +kernel)]; kernel_rfl) | (rw [if_neg (by decide +kernel)]; exact ⟨rfl, rfl⟩))
    (fun os started H enc _ => names_lifted os started H enc)

end Go.Proofs.YtohikcchbjchkaaGreatDoor
