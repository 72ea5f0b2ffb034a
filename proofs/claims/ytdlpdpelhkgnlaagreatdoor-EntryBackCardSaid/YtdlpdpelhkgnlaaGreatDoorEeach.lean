/- entry's reader: each. -/
import Derived.Test.YtdlpdpelhkgnlaaGreatDoorErd
namespace Go.Proofs.YtdlpdpelhkgnlaaGreatDoor
open Go Go.RowKit Go.Shelf Go.Sort
attribute [local go_sem] bneI

set_option maxRecDepth 100000 in
set_option maxHeartbeats 4000000 in
/-- each, whatever is done: R holds behind so many of them. -/
theorem reach_any (F : FuncId) (hF : ∀ args w, (callFunc F args).run Tryz.prog w = .ok (.enter F args) w) (caps : Array Value) (w0 : World) (b : Nat) (r : Rd) (most : Nat) (w : World) (h : RdAt w0 b r w) (hE : Env8 w0) (hs : r.s.length ≤ 1000000000) (hm : most ≤ 1000000)
    (R : Nat → World → Prop) (h0 : ∀ W, RdAt w0 b (rdNum most r).2 W → w.grownBy W (some b) → R 0 W)
    (hst : ∀ k W, k < (rdNum most r).1 → R k W → Calls Tryz.prog F caps W fun e W' => e = .returned (.tuple #[]) ∧ R (k + 1) W') :
    Calls Tryz.prog 66 #[.pointer (some ⟨b, 0, none⟩), .int .i64 (most : Int), .func (.func F) #[] caps] w fun e w' => e = .returned (.tuple #[]) ∧ R (rdNum most r).1 w' := by
  have hN := rnum_any w0 b r most w h hE hs (by omega)
  have hle : (rdNum most r).1 ≤ most := num_le most r
  obtain ⟨n, hn⟩ : ∃ n, n = (rdNum most r).1 := ⟨_, rfl⟩
  rw [← hn] at hN hle hst ⊢
  have HR := Lib.hid (And.intro h0 hst)
  clear h hE hs h0 hst hn
  go_enter Tryz.func66, Tryz.ntmps66
  go_wp2_with fail
  refine hN.mono ?_
  rintro e w2 ⟨rfl, hk2, hg2⟩
  have H0 := Lib.hid (HR.out.1 w2 hk2 hg2)
  clear hN hk2 hg2
  go_wp2_with fail
  go_loopw [9] (fun s9 wr => ∃ (k : Nat), s9 = .int .i64 (k : Int) ∧ k ≤ n ∧ R k wr) (fun s9 _ => n - natI s9)
  case atStart => exact ⟨0, rfl, Nat.zero_le _, H0.out⟩
  case round =>
    obtain ⟨k, rfl, hk, hR⟩ := hrel
    by_cases hlast : k < n
    · have hli : (k : Int) < (n : Int) := by omega
      have hw1 : wrap64 ((k : Int) + 1) = (k : Int) + 1 := by unfold wrap64; omega
      have hcl := HR.out.2 k wr hlast hR
      have hrun : Sem.run Tryz.prog (callFunc F caps) wr = .ok (.enter F caps) wr := hF _ _
      have hemp : (#[] : Array Value) ++ caps = caps := Array.empty_append
      clear hR
      go_wp2_with fail
      refine hcl.mono ?_
      rintro e w3 ⟨rfl, hR3⟩
      have H3 := Lib.hid hR3
      clear hcl hrun hR3 hemp
      go_wp2
      go_roundw
      case rel => exact ⟨k + 1, by simp, hlast, H3.out⟩
      case measure => simp [natI]; omega
    · have hli : ¬ (k : Int) < (n : Int) := by omega
      have hke : k = n := by omega
      subst hke
      have HRR := Lib.hid hR
      clear hR
      go_wp2
      go_end0
      exact ⟨rfl, HRR.out⟩
end Go.Proofs.YtdlpdpelhkgnlaaGreatDoor
