/- slices.Equal of rows of structs that read alike. -/
import Derived.Test.YtdlpdpelhkgnlaaGreatDoorEdm
import Derived.Laws.StructEq
namespace Go.Proofs.YtdlpdpelhkgnlaaGreatDoor
open Go Go.RowKit Go.Shelf Go.Sort
attribute [local go_sem] bneI

set_option maxRecDepth 100000 in
set_option maxHeartbeats 4000000 in
theorem sameFa_any (xs : List FaP) (u v : Value) (w : World) (hu : RowK 2 faE w u xs) (hv : RowK 2 faE w v xs) (hn : xs.length ≤ 1000000) :
    Calls Tryz.prog 69 #[u, v] w fun e w' => e = .returned (.bool true) ∧ Below w.heap.size w w' := by
  obtain ⟨p, c, rfl, -⟩ := hu.sh
  obtain ⟨q, d, rfl, -⟩ := hv.sh
  have HX := Lib.hid (And.intro hu hv)
  clear hu hv
  go_enter Tryz.func69, Tryz.ntmps69
  go_wp2_with fail
  go_loopw [13] (fun s13 wr => ∃ (i : Nat), s13 = .int .i64 (i : Int) ∧ i ≤ xs.length ∧ Below w.heap.size w wr) (fun s13 _ => xs.length - natI s13)
  case atStart => exact ⟨0, rfl, Nat.zero_le _, Below.refl _ _⟩
  case round =>
    obtain ⟨i, rfl, hi, hB⟩ := hrel
    have HR := Lib.hid hB
    clear hB
    by_cases hlast : i < xs.length
    · have hli : (i : Int) < (xs.length : Int) := by omega
      have hw1 : wrap64 ((i : Int) + 1) = (i : Int) + 1 := by unfold wrap64; omega
      have hb := HR.out
      obtain ⟨b1, o1, e1, h1⟩ := (HX.out.1.below hb).at i hlast
      obtain ⟨b2, o2, e2, h2⟩ := (HX.out.2.below hb).at i hlast
      clear hb
      subst e1
      subst e2
      obtain ⟨x, hx⟩ : ∃ x, xs[i] = x := ⟨_, rfl⟩
      replace h1 := h1 i hlast
      replace h2 := h2 i hlast
      rw [hx] at h1 h2
      have y10 : wr.cell? ⟨b1, o1 + i * 2, none⟩ = some (.int .u8 (x.1 : Int)) := h1 0 _ rfl
      have y11 : wr.cell? ⟨b1, o1 + i * 2 + 1, none⟩ = some (.string ⟨x.2.toArray⟩) := h1 1 _ rfl
      have y20 : wr.cell? ⟨b2, o2 + i * 2, none⟩ = some (.int .u8 (x.1 : Int)) := h2 0 _ rfl
      have y21 : wr.cell? ⟨b2, o2 + i * 2 + 1, none⟩ = some (.string ⟨x.2.toArray⟩) := h2 1 _ rfl
      clear h1 h2 hx
      go_upto_region 6 with (fail)
      go_quiet (fail)
      go_wp2
      go_roundw
      case rel => exact ⟨i + 1, by simp, hlast, HR.out.trans ((below_drewN (Below.refl _ _) _).mono HR.out.size)⟩
      case measure => simp [natI]; omega
    · have hli : ¬ (i : Int) < (xs.length : Int) := by omega
      go_wp2
      refine bodyPost_ret (v := .bool true) (by simp [results, Tryz.results69, go_sem]) rfl ⟨rfl, HR.out⟩

set_option maxRecDepth 100000 in
set_option maxHeartbeats 4000000 in
theorem sameRc_any (xs : List RcP) (u v : Value) (w : World) (hu : RowK 2 rcE w u xs) (hv : RowK 2 rcE w v xs) (hn : xs.length ≤ 1000000) :
    Calls Tryz.prog 71 #[u, v] w fun e w' => e = .returned (.bool true) ∧ Below w.heap.size w w' := by
  obtain ⟨p, c, rfl, -⟩ := hu.sh
  obtain ⟨q, d, rfl, -⟩ := hv.sh
  have HX := Lib.hid (And.intro hu hv)
  clear hu hv
  go_enter Tryz.func71, Tryz.ntmps71
  go_wp2_with fail
  go_loopw [13] (fun s13 wr => ∃ (i : Nat), s13 = .int .i64 (i : Int) ∧ i ≤ xs.length ∧ Below w.heap.size w wr) (fun s13 _ => xs.length - natI s13)
  case atStart => exact ⟨0, rfl, Nat.zero_le _, Below.refl _ _⟩
  case round =>
    obtain ⟨i, rfl, hi, hB⟩ := hrel
    have HR := Lib.hid hB
    clear hB
    by_cases hlast : i < xs.length
    · have hli : (i : Int) < (xs.length : Int) := by omega
      have hw1 : wrap64 ((i : Int) + 1) = (i : Int) + 1 := by unfold wrap64; omega
      have hb := HR.out
      obtain ⟨b1, o1, e1, h1⟩ := (HX.out.1.below hb).at i hlast
      obtain ⟨b2, o2, e2, h2⟩ := (HX.out.2.below hb).at i hlast
      clear hb
      subst e1
      subst e2
      obtain ⟨x, hx⟩ : ∃ x, xs[i] = x := ⟨_, rfl⟩
      replace h1 := h1 i hlast
      replace h2 := h2 i hlast
      rw [hx] at h1 h2
      have y10 : wr.cell? ⟨b1, o1 + i * 2, none⟩ = some (.string ⟨x.1.toArray⟩) := h1 0 _ rfl
      have y11 : wr.cell? ⟨b1, o1 + i * 2 + 1, none⟩ = some (.bool x.2) := h1 1 _ rfl
      have y20 : wr.cell? ⟨b2, o2 + i * 2, none⟩ = some (.string ⟨x.1.toArray⟩) := h2 0 _ rfl
      have y21 : wr.cell? ⟨b2, o2 + i * 2 + 1, none⟩ = some (.bool x.2) := h2 1 _ rfl
      clear h1 h2 hx
      go_upto_region 6 with (fail)
      go_quiet (fail)
      go_wp2
      go_roundw
      case rel => exact ⟨i + 1, by simp, hlast, HR.out.trans ((below_drewN (Below.refl _ _) _).mono HR.out.size)⟩
      case measure => simp [natI]; omega
    · have hli : ¬ (i : Int) < (xs.length : Int) := by omega
      go_wp2
      refine bodyPost_ret (v := .bool true) (by simp [results, Tryz.results71, go_sem]) rfl ⟨rfl, HR.out⟩

set_option maxRecDepth 100000 in
set_option maxHeartbeats 4000000 in
theorem sameJo_any (xs : List JoP) (u v : Value) (w : World) (hu : RowK 3 joE w u xs) (hv : RowK 3 joE w v xs) (hn : xs.length ≤ 1000000) :
    Calls Tryz.prog 70 #[u, v] w fun e w' => e = .returned (.bool true) ∧ Below w.heap.size w w' := by
  obtain ⟨p, c, rfl, -⟩ := hu.sh
  obtain ⟨q, d, rfl, -⟩ := hv.sh
  have HX := Lib.hid (And.intro hu hv)
  clear hu hv
  go_enter Tryz.func70, Tryz.ntmps70
  go_wp2_with fail
  go_loopw [13] (fun s13 wr => ∃ (i : Nat), s13 = .int .i64 (i : Int) ∧ i ≤ xs.length ∧ Below w.heap.size w wr) (fun s13 _ => xs.length - natI s13)
  case atStart => exact ⟨0, rfl, Nat.zero_le _, Below.refl _ _⟩
  case round =>
    obtain ⟨i, rfl, hi, hB⟩ := hrel
    have HR := Lib.hid hB
    clear hB
    by_cases hlast : i < xs.length
    · have hli : (i : Int) < (xs.length : Int) := by omega
      have hw1 : wrap64 ((i : Int) + 1) = (i : Int) + 1 := by unfold wrap64; omega
      have hb := HR.out
      obtain ⟨b1, o1, e1, h1⟩ := (HX.out.1.below hb).at i hlast
      obtain ⟨b2, o2, e2, h2⟩ := (HX.out.2.below hb).at i hlast
      clear hb
      subst e1
      subst e2
      obtain ⟨x, hx⟩ : ∃ x, xs[i] = x := ⟨_, rfl⟩
      replace h1 := h1 i hlast
      replace h2 := h2 i hlast
      rw [hx] at h1 h2
      have y10 : wr.cell? ⟨b1, o1 + i * 3, none⟩ = some (.string ⟨x.dom.toArray⟩) := h1 0 _ rfl
      have y11 : wr.cell? ⟨b1, o1 + i * 3 + 1, none⟩ = some (.int .i64 x.tries) := h1 1 _ rfl
      have y12 : wr.cell? ⟨b1, o1 + i * 3 + 2, none⟩ = some (.int .i64 x.due) := h1 2 _ rfl
      have y20 : wr.cell? ⟨b2, o2 + i * 3, none⟩ = some (.string ⟨x.dom.toArray⟩) := h2 0 _ rfl
      have y21 : wr.cell? ⟨b2, o2 + i * 3 + 1, none⟩ = some (.int .i64 x.tries) := h2 1 _ rfl
      have y22 : wr.cell? ⟨b2, o2 + i * 3 + 2, none⟩ = some (.int .i64 x.due) := h2 2 _ rfl
      clear h1 h2 hx
      go_upto_region 6 with (fail)
      go_quiet (fail)
      go_wp2
      go_roundw
      case rel => exact ⟨i + 1, by simp, hlast, HR.out.trans ((below_drewN (Below.refl _ _) _).mono HR.out.size)⟩
      case measure => simp [natI]; omega
    · have hli : ¬ (i : Int) < (xs.length : Int) := by omega
      go_wp2
      refine bodyPost_ret (v := .bool true) (by simp [results, Tryz.results70, go_sem]) rfl ⟨rfl, HR.out⟩
end Go.Proofs.YtdlpdpelhkgnlaaGreatDoor
