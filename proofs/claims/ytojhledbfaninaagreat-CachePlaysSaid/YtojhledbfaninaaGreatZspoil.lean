/- The law's spoil: it writes only over what the entries own. -/
import Derived.Test.YtojhledbfaninaaGreatZown
namespace Go.Proofs.YtojhledbfaninaaGreat
open Go Go.RowKit Go.Shelf Go.Sort
attribute [local go_sem] bneI

/-- Entries that may be written over, in block g, from its first cell on; their lists of texts are at hs. -/
structure SpE (W : World) (base g n : Nat) (hs : List SH) : Prop where
  len : hs.length = n
  ge : base ≤ g
  nf : NF W g
  dom : ∀ i, i < n → ∃ v, W.cell? ⟨g, i * 6, none⟩ = some v
  sl : ∀ (i : Nat) (h : i < hs.length), W.cell? ⟨g, i * 6 + 3, none⟩ = some (shV hs[i])
  mx : ∀ h ∈ hs, h.2.1 ≤ 1000000 ∧ ∀ k, k < h.2.1 → ∃ b o, h.1 = some ⟨b, o, none⟩ ∧ base ≤ b ∧ b ≠ g ∧ NF W b ∧ ∃ v, W.cell? ⟨b, o + k, none⟩ = some v
theorem cell_setCell_ne {W : World} {a p : Addr} {u v : Value} (h : W.cell? p = some v) (hn : p.block ≠ a.block) : (W.setCell a u).cell? p = some v :=
  (World.cell?_of_block (Below.heap_setCell W a u p.block hn)).trans h
theorem cell_setCell_ex {W : World} {b o o2 : Nat} {u v : Value} (h : W.cell? ⟨b, o, none⟩ = some v) : ∃ v', (W.setCell ⟨b, o2, none⟩ u).cell? ⟨b, o, none⟩ = some v' := by
  obtain ⟨ob, hb, hc⟩ := cells_of_cell h
  cases ob with
  | cells cs t f =>
    by_cases e : o2 = o
    · subst e
      have hlt : o2 < cs.size := by
        simp [World.cell?, hb] at h
        exact (Array.getElem?_eq_some_iff.1 h).1
      exact ⟨u, by simp [World.cell?, heap_setCell_self hb, hlt]⟩
    · refine ⟨v, ?_⟩
      simp [World.cell?, hb] at h
      simp [World.cell?, heap_setCell_self hb, Array.getElem?_setIfInBounds_ne e, h]
  | _ => simp [Obj.isCells] at hc
theorem cell_setCell_off {W : World} {b o o2 : Nat} {u v : Value} (h : W.cell? ⟨b, o, none⟩ = some v) (hn : o2 ≠ o) : (W.setCell ⟨b, o2, none⟩ u).cell? ⟨b, o, none⟩ = some v := by
  obtain ⟨ob, hb, hc⟩ := cells_of_cell h
  cases ob with
  | cells cs t f =>
    simp [World.cell?, hb] at h
    simp [World.cell?, heap_setCell_self hb, Array.getElem?_setIfInBounds_ne hn, h]
  | _ => simp [Obj.isCells] at hc
theorem SpE.text {W : World} {base g n : Nat} {hs : List SH} (h : SpE W base g n hs) {b o : Nat} (u : Value) (hb : b ≠ g) : SpE (W.setCell ⟨b, o, none⟩ u) base g n hs := by
  refine ⟨h.len, h.ge, h.nf.setCell b o u, fun i hi => ?_, fun i hi => cell_setCell_ne (h.sl i hi) (fun e => hb e.symm), fun x hx => ⟨(h.mx x hx).1, fun k hk => ?_⟩⟩
  · obtain ⟨v, hv⟩ := h.dom i hi
    exact ⟨v, cell_setCell_ne hv (fun e => hb e.symm)⟩
  · obtain ⟨b', o', e, h1, h2, h3, v, h4⟩ := (h.mx x hx).2 k hk
    refine ⟨b', o', e, h1, h2, h3.setCell b o u, ?_⟩
    by_cases e : b' = b
    · subst e; exact cell_setCell_ex h4
    · exact ⟨v, cell_setCell_ne h4 e⟩
theorem SpE.dom_set {W : World} {base g n : Nat} {hs : List SH} (h : SpE W base g n hs) (i : Nat) (u : Value) : SpE (W.setCell ⟨g, i * 6, none⟩ u) base g n hs := by
  refine ⟨h.len, h.ge, h.nf.setCell g _ u, fun j hj => ?_, fun j hj => cell_setCell_off (h.sl j hj) (by omega), fun x hx => ⟨(h.mx x hx).1, fun k hk => ?_⟩⟩
  · obtain ⟨v, hv⟩ := h.dom j hj
    exact cell_setCell_ex hv
  · obtain ⟨b', o', e, h1, h2, h3, v, h4⟩ := (h.mx x hx).2 k hk
    exact ⟨b', o', e, h1, h2, h3.setCell g _ u, v, cell_setCell_ne h4 h2⟩

set_option maxRecDepth 100000 in
set_option maxHeartbeats 2000000 in
theorem spoilE_any (w : World) (base : Nat) (p : Option Addr) (n c : Nat) (hs : List SH) (h : ∀ i, i < n → ∃ g, p = some ⟨g, 0, none⟩ ∧ SpE w base g n hs) (hn : n ≤ 1000000) :
    Calls Tryz.prog 34 #[.slice p n c] w fun e w' => e = .returned (.tuple #[]) ∧ Below base w w' := by
  have HH := Lib.hid h
  clear h
  go_enter Tryz.func34, Tryz.ntmps34
  go_wp2_with fail
  go_loopw [2] (fun iv wr => ∃ i : Nat, iv = .int .i64 (i : Int) ∧ i ≤ n ∧ Below base w wr ∧ ∀ g, p = some ⟨g, 0, none⟩ → SpE w base g n hs → SpE wr base g n hs)
    (fun iv _ => n - natI iv)
  case atStart => exact ⟨0, rfl, Nat.zero_le _, Below.refl _ _, fun _ _ h => h⟩
  case round =>
    obtain ⟨i, rfl, hi, hB, hsp⟩ := hrel
    generalize hww : wr = wr1 at *
    clear hww
    by_cases hlast : i < n
    · have hli : (i : Int) < (n : Int) := by omega
      obtain ⟨g, rfl, hS0⟩ := HH.out i hlast
      have hS := hsp g rfl hS0
      have hil : i < hs.length := by rw [hS.len]; exact hlast
      have hmem : hs[i] ∈ hs := List.getElem_mem hil
      have HR := Lib.hid (And.intro hB (And.intro hS hmem))
      have hm6 := (hS.mx _ hmem).1
      have hsl := fun (W : World) (h : SpE W base g n hs) => h.sl i hil
      have hmx := fun (W : World) (h : SpE W base g n hs) => (h.mx _ hmem).2
      clear hB hsp hS0 hS hmem
      obtain ⟨x, hx⟩ : ∃ x, x = hs[i] := ⟨_, rfl⟩
      rw [← hx] at hm6
      simp only [← hx] at hsl hmx
      clear hx
      obtain ⟨q, m, c'⟩ := x
      unfold shV at hsl
      dsimp only at hm6 hsl hmx
      have HM := Lib.hid (And.intro hsl hmx)
      clear hsl hmx
      go_wp2_with fail
      go_loopw [3] (fun kv wr => ∃ k : Nat, kv = .int .i64 (k : Int) ∧ k ≤ m ∧ Below base w wr ∧ SpE wr base g n hs)
        (fun kv _ => m - natI kv)
      case atStart => exact ⟨0, rfl, Nat.zero_le _, HR.out.1, HR.out.2.1⟩
      case round =>
        obtain ⟨k, rfl, hk, hB, hS⟩ := hrel
        have s3 := HM.out.1 wr hS
        by_cases hkm : k < m
        · have hki : (k : Int) < (m : Int) := by omega
          obtain ⟨b, o, rfl, hbb, hbg, hnf, v, hv⟩ := HM.out.2 wr hS k hkm
          have f4 := hnf.frozen (o + k)
          have HQ := Lib.hid (And.intro (hB.setCell (p := ⟨b, o + k, none⟩) hbb (.string ⟨#[115, 112, 111, 105, 108, 116]⟩)) (hS.text (o := o + k) (.string ⟨#[115, 112, 111, 105, 108, 116]⟩) hbg))
          clear hB hS hbb hbg hnf
          go_wp2
          go_roundw
          case rel => exact ⟨k + 1, by simp, by omega, HQ.out.1, HQ.out.2⟩
          case measure => simp [natI]; omega
        · have hki : ¬ (k : Int) < (m : Int) := by omega
          obtain ⟨v0, d0⟩ := hS.dom i hlast
          have f0 := hS.nf.frozen (i * 6)
          have HQ := Lib.hid (And.intro (hB.setCell (p := ⟨g, i * 6, none⟩) hS.ge (.string ⟨#[115, 112, 111, 105, 108, 116]⟩)) (hS.dom_set i (.string ⟨#[115, 112, 111, 105, 108, 116]⟩)))
          clear hB hS
          go_wp2
          go_roundw
          case rel => exact ⟨i + 1, by simp, by omega, HQ.out.1, fun g' e _ => by injection e with e; injection e with e; subst e; exact HQ.out.2⟩
          case measure => simp [natI]; omega
    · have hli : ¬ (i : Int) < (n : Int) := by omega
      have HB := Lib.hid hB
      clear hB hsp
      go_wp2
      go_end0
      exact ⟨rfl, HB.out⟩
end Go.Proofs.YtojhledbfaninaaGreat
