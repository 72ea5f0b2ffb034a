/- NoticeNames: the run is what the program does. -/
import Derived.Test.YtohikcchbjchkaaGreatDoorKlaw
import Derived.Test.YtohikcchbjchkaaGreatDoorKdoor
import Derived.Test.YtohikcchbjchkaaGreatDoorKrcv
namespace Go.Proofs.YtohikcchbjchkaaGreatDoor
open Go Sx Go.RowKit

set_option maxRecDepth 1000000
theorem mixed_k : Tryz.prog.follows .mixedOrders = true := by kernel_rfl
theorem names_k : (Tryz.prog.funcs.toList.all fun F => !(F.name == "runtime.NumGoroutine")) = true := by decide +kernel
theorem pok_k (M : Tr (List SV → Option SV)) : POk Tryz.prog (cxT Tryz.prog xk0 M rcv0) := cxT_ok mixed_k _ _ _
theorem rcv_k (k t : Nat) (h : Tr.get (pa k) rcv0 = some t) : Rcv Tryz.prog k t := by
  unfold rcv0 at h
  by_cases e : k = 70
  · subst e
    rw [Tr.get_set_same] at h; cases h
    exact rcv_any
  · rw [Tr.get_set_ne _ _ _ _ (fun e2 => e (pa_inj e2)), Tr.get_e] at h; cases h
theorem fok_k (M : Tr (List SV → Option SV)) : FOk Tryz.prog (cxT Tryz.prog xk0 M rcv0) := by
  refine cxT_fok names_k (xOf_is ?_) M rcv_k
  intro q hq
  simp only [List.mem_cons, List.mem_nil_iff, or_false] at hq
  rcases hq with rfl | rfl | rfl | rfl
  · exact ⟨Tryz.f99, Tryz.func99, by kernel_rfl, by kernel_rfl, by kernel_rfl, by kernel_rfl⟩
  · exact ⟨Tryz.f197, Tryz.func197, by kernel_rfl, by kernel_rfl, by kernel_rfl, by kernel_rfl⟩
  · exact ⟨Tryz.f136, Tryz.func136, by kernel_rfl, by kernel_rfl, by kernel_rfl, by kernel_rfl⟩
  · exact ⟨#[3], 67, Tryz.underlying67, Tryz.f185, Tryz.func185, by kernel_rfl, by kernel_rfl, by kernel_rfl, by kernel_rfl⟩
theorem glob_base {W w : World} (hD : Door W) (hb : Base W.heap.size W w) : Glob w := by
  obtain ⟨m, hm⟩ := hD.glob
  exact ⟨m, (hb.cell (a := ⟨_, _, none⟩) (cell_lt hm)).trans hm⟩
theorem index_known {W : World} (hD : Door W) : Known Tryz.prog W.heap.size W 137 ixM :=
  ixM_known fun s sub w hs hb => by
    obtain ⟨m, hm⟩ := glob_base hD hb
    exact Tryz.stringslite_Index s sub m w hs hm
theorem memo0_k {W : World} (hD : Door W) : MemoOk Tryz.prog (cxT Tryz.prog xk0 memo0 rcv0) W.heap.size W :=
  memo_set memo_e (index_known hD)
theorem laid_k {W : World} (hD : Door W) : Laid (hOf heap0) Tryz.prog.globals.size W := by
  refine laid_of fun q hq => ?_
  simp only [heap0, List.mem_cons, List.mem_nil_iff, or_false] at hq
  rcases hq with rfl | rfl
  · exact ⟨of_decide_eq_true (by kernel_rfl), laid_cells hD.kinds (by kernel_rfl)⟩
  · exact ⟨of_decide_eq_true (by kernel_rfl), laid_cells hD.pow (by kernel_rfl)⟩
/-- The law, called at whatever door. -/
theorem law_any {W : World} (hD : Door W) : Calls Tryz.prog 3 #[] W fun e w' => e = .returned (.bool true) ∧ Left' W w' := by
  have hr := law_run
  rw [Bool.and_eq_true] at hr
  exact run_law (pok_k _) (fok_k _) (memo_tab pok_k fok_k (memo0_k hD) (laid_k hD) hD.size tabs_run) rfl rfl (laid_k hD) hD.size hr.1 hr.2
#print axioms law_any
end Go.Proofs.YtohikcchbjchkaaGreatDoor
