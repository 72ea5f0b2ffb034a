/- EntryNames: the run is what the program does. -/
import Derived.Test.YtdlpdpelhkgnlaaGreatDoorKlaw
import Derived.Test.YtdlpdpelhkgnlaaGreatDoorKdoor
namespace Go.Proofs.YtdlpdpelhkgnlaaGreatDoor
open Go Sx Go.RowKit

set_option maxRecDepth 1000000
theorem mixed_k : Tryz.prog.follows .mixedOrders = true := by kernel_rfl
theorem names_k : (Tryz.prog.funcs.toList.all fun F => !(F.name == "runtime.NumGoroutine")) = true := by decide +kernel
theorem pok_k (M : Tr (List SV → Option SV)) : POk Tryz.prog (cxT Tryz.prog xk0 M) := cxT_ok mixed_k _ _
theorem fok_k (M : Tr (List SV → Option SV)) : FOk Tryz.prog (cxT Tryz.prog xk0 M) := by
  refine cxT_fok names_k (xOf_is ?_) M
  intro q hq
  simp only [List.mem_cons, List.mem_nil_iff, or_false] at hq
  rcases hq with rfl | rfl
  · exact ⟨Tryz.f138, Tryz.func138, by kernel_rfl, by kernel_rfl, by kernel_rfl, by kernel_rfl⟩
  · exact ⟨Tryz.f180, Tryz.func180, by kernel_rfl, by kernel_rfl, by kernel_rfl, by kernel_rfl⟩
theorem glob_base {W w : World} (hD : Door W) (hb : Base W.heap.size W w) : Glob w := by
  obtain ⟨m, hm⟩ := hD.glob
  exact ⟨m, (hb.cell (a := ⟨_, _, none⟩) (cell_lt hm)).trans hm⟩
theorem rng_base {W w : World} (hD : Door W) (hb : Base W.heap.size W w) : Rng w := by
  obtain ⟨ev, h1, h2⟩ := hD.rng
  exact ⟨ev, (hb.cell (a := ⟨_, _, none⟩) (cell_lt h1)).trans h1, h2⟩
theorem left_of_below {w w' : World} (h : Below w.heap.size w w') : Left' w w' := ⟨⟨h.os, h.output⟩, h.size, h.block⟩
theorem num_known {W : World} (hD : Door W) : Known Tryz.prog W.heap.size W 97 numM := by
  refine known_of fun xs v hv => ?_
  unfold numM at hv
  split at hv
  · rename_i a m
    cases h1 : Nat.ble a.length 1000000000 with
    | false => rw [h1] at hv; cases hv
    | true =>
      cases h2 : Nat.blt m 9223372036854775808 with
      | false => rw [h1, h2] at hv; cases hv
      | true =>
        rw [h1, h2] at hv; cases hv
        refine ⟨_, _, rfl, rfl, fun w hb => ?_⟩
        refine (num_any a m w (by simpa using h1) (by simpa using h2) (rng_base hD hb)).mono ?_
        rintro e w' ⟨hp, hl⟩
        exact ⟨hp, left_of_below hl⟩
  · cases hv
theorem index_known {W : World} (hD : Door W) : Known Tryz.prog W.heap.size W 137 ixM :=
  ixM_known fun s sub w hs hb => by
    obtain ⟨m, hm⟩ := glob_base hD hb
    exact Tryz.stringslite_Index s sub m w hs hm
theorem memo0_k {W : World} (hD : Door W) : MemoOk Tryz.prog (cxT Tryz.prog xk0 memo0) W.heap.size W :=
  memo_set (memo_set memo_e (num_known hD)) (index_known hD)
theorem laid_k {W : World} (hD : Door W) : Laid (hOf heap0) Tryz.prog.globals.size W := by
  refine laid_of fun q hq => ?_
  simp only [heap0, List.mem_cons, List.mem_nil_iff, or_false] at hq
  rcases hq with rfl | rfl
  · exact ⟨of_decide_eq_true (by kernel_rfl), laid_cells hD.kinds (by kernel_rfl)⟩
  · exact ⟨of_decide_eq_true (by kernel_rfl), laid_cells hD.pow (by kernel_rfl)⟩
/-- The law, called at whatever door. -/
theorem law_any {W : World} (hD : Door W) : Calls Tryz.prog 7 #[] W fun e w' => e = .returned (.bool true) ∧ Left' W w' := by
  have hr := law_run
  rw [Bool.and_eq_true] at hr
  exact run_law (pok_k _) (fok_k _) (memo_tab pok_k fok_k (memo0_k hD) (laid_k hD) hD.size tabs_run) rfl rfl (laid_k hD) hD.size hr.1 hr.2
#print axioms law_any
end Go.Proofs.YtdlpdpelhkgnlaaGreatDoor
