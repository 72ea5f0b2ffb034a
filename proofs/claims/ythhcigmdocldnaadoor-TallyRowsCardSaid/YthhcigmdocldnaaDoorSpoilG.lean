/- The law's spoil at rows of a call's own, with failures of any length. -/
import Derived.Test.YthhcigmdocldnaaDoorToldG
namespace Go.Proofs.YthhcigmdocldnaaDoor
open Go Go.RowKit Go.Shelf Go.Sort

/-- Rows that may be written over: row i has ms i failures. -/
def SpoilG (W : World) (base g n : Nat) (ms : Nat → Nat) : Prop :=
  base ≤ g ∧ ∃ cur, W.heap[g]? = some (.cells cur 41 (0, 0)) ∧ n * 4 ≤ cur.size ∧ ∀ i, i < n → ∃ fp fc, cur[i * 4 + 3]? = some (.slice fp (ms i) fc) ∧ (0 < ms i → ∃ g2 cur2, fp = some ⟨g2, 0, none⟩ ∧ W.heap[g2]? = some (.cells cur2 3 (0, 0)) ∧ ms i ≤ cur2.size ∧ ms i ≤ fc ∧ base ≤ g2)
theorem heap_setCell_g {W : World} {b off : Nat} {cs : Array Value} {t : TypeId} {f : Nat × Nat} {v : Value} (h : W.heap[b]? = some (.cells cs t f)) : (W.setCell ⟨b, off, none⟩ v).heap[b]? = some (.cells (cs.setIfInBounds off v) t f) := by
  simp [World.setCell, Array.getElem?_modify, h]
theorem SpoilG.row {W : World} {base g n : Nat} {ms : Nat → Nat} (h : SpoilG W base g n ms) {j : Nat} (v : Value) : SpoilG (W.setCell ⟨g, j * 4, none⟩ v) base g n ms := by
  obtain ⟨hb, cur, hg, hs, hall⟩ := h
  refine ⟨hb, _, heap_setCell_g hg, by simpa using hs, fun i hi => ?_⟩
  obtain ⟨fp, fc, h1, h2⟩ := hall i hi
  refine ⟨fp, fc, ?_, fun hp => ?_⟩
  · rw [Array.getElem?_setIfInBounds_ne (by omega)]
    exact h1
  · obtain ⟨g2, cur2, e, h3, h4, h5, h6⟩ := h2 hp
    have hne : g2 ≠ g := fun e => by subst e; have := hg.symm.trans h3; simp at this
    exact ⟨g2, cur2, e, (Below.heap_setCell W _ _ g2 hne).trans h3, h4, h5, h6⟩
theorem SpoilG.fail {W : World} {base g n : Nat} {ms : Nat → Nat} (h : SpoilG W base g n ms) {g3 k : Nat} {cur3 : Array Value} (h3' : W.heap[g3]? = some (.cells cur3 3 (0, 0))) (v : Value) : SpoilG (W.setCell ⟨g3, k, none⟩ v) base g n ms := by
  obtain ⟨hb, cur, hg, hs, hall⟩ := h
  have hne : g ≠ g3 := fun e => by subst e; have := hg.symm.trans h3'; simp at this
  refine ⟨hb, cur, (Below.heap_setCell W _ _ g hne).trans hg, hs, fun i hi => ?_⟩
  obtain ⟨fp, fc, h1, h2⟩ := hall i hi
  refine ⟨fp, fc, h1, fun hp => ?_⟩
  obtain ⟨g2, cur2, e, h3, h4, h5, h6⟩ := h2 hp
  by_cases e2 : g2 = g3
  · subst e2
    exact ⟨g2, _, e, heap_setCell_g h3, by simpa using h4, h5, h6⟩
  · exact ⟨g2, cur2, e, (Below.heap_setCell W _ _ g2 e2).trans h3, h4, h5, h6⟩

/-- A world in which only rows and numbers from base on were written. -/
structure SplG (base : Nat) (w w' : World) : Prop where
  below : Below base w w'
  rest : ∀ (k : Nat) (o : Obj), w.heap[k]? = some o → (∀ cur, o ≠ .cells cur 41 (0, 0)) → (∀ cur, o ≠ .cells cur 3 (0, 0)) → w'.heap[k]? = some o
theorem SplG.refl (base : Nat) (w : World) : SplG base w w := ⟨Below.refl _ _, fun _ _ h _ _ => h⟩
theorem SplG.setRow {base : Nat} {w wr : World} {g n : Nat} {ms : Nat → Nat} (h : SplG base w wr) (hS : SpoilG wr base g n ms) (j : Nat) (u : Value) : SplG base w (wr.setCell ⟨g, j, none⟩ u) := by
  obtain ⟨hb, cur, hg, _⟩ := hS
  refine ⟨h.below.setCell (p := ⟨g, j, none⟩) hb u, fun k o hk h1 h2 => ?_⟩
  have h3 := h.rest k o hk h1 h2
  have hne : k ≠ g := fun e => by subst e; exact h1 cur (Option.some.inj (h3.symm.trans hg))
  exact (Below.heap_setCell wr _ _ k hne).trans h3
theorem SplG.setInt {base : Nat} {w wr : World} {g : Nat} {cur : Array Value} (h : SplG base w wr) (hg : wr.heap[g]? = some (.cells cur 3 (0, 0))) (hb : base ≤ g) (j : Nat) (u : Value) : SplG base w (wr.setCell ⟨g, j, none⟩ u) := by
  refine ⟨h.below.setCell (p := ⟨g, j, none⟩) hb u, fun k o hk h1 h2 => ?_⟩
  have h3 := h.rest k o hk h1 h2
  have hne : k ≠ g := fun e => by subst e; exact h2 cur (Option.some.inj (h3.symm.trans hg))
  exact (Below.heap_setCell wr _ _ k hne).trans h3

set_option maxRecDepth 100000 in
set_option maxHeartbeats 1000000 in
theorem spoilG_any (w : World) (base : Nat) (p : Option Addr) (n c : Nat) (ms : Nat → Nat) (h : ∀ i, i < n → ∃ g, p = some ⟨g, 0, none⟩ ∧ n ≤ c ∧ SpoilG w base g n ms) (hn : n ≤ 1000000) (hms : ∀ i, i < n → ms i ≤ 1000000) :
    Calls Tryd.prog 35 #[.slice p n c] w fun e w' => e = .returned (.tuple #[]) ∧ SplG base w w' := by
  have HH := Lib.hid (And.intro h hms)
  clear h hms
  go_enter Tryd.func35, Tryd.ntmps35
  go_wp2_with fail
  go_loopw [2] (fun iv wr => ∃ i : Nat, iv = .int .i64 (i : Int) ∧ i ≤ n ∧ SplG base w wr ∧ ∀ g, p = some ⟨g, 0, none⟩ → SpoilG w base g n ms → SpoilG wr base g n ms)
    (fun iv _ => n - natOf iv)
  case atStart => exact ⟨0, rfl, Nat.zero_le _, SplG.refl _ _, fun _ _ h => h⟩
  case round =>
    obtain ⟨i, rfl, hi, hB, hsp⟩ := hrel
    by_cases hlast : i < n
    · have hli : (i : Int) < (n : Int) := by omega
      obtain ⟨g, rfl, hc, hS0⟩ := HH.out.1 i hlast
      have hmi := HH.out.2 i hlast
      have hS := hsp g rfl hS0
      obtain ⟨hbg, cur, hg, hsz, hall⟩ := hS
      have hS : SpoilG wr base g n ms := ⟨hbg, cur, hg, hsz, hall⟩
      obtain ⟨v0, hv0⟩ : ∃ v0, cur[i * 4]? = some v0 := ⟨_, Array.getElem?_eq_getElem (by omega)⟩
      have c0 : wr.cell? ⟨g, i * 4, none⟩ = some v0 := by simp [World.cell?, hg, hv0]
      have f0 : wr.frozen? ⟨g, i * 4, none⟩ = false := by simp [World.frozen?, hg]
      have HR := Lib.hid (And.intro hB (And.intro hS hbg))
      clear hB hsp hS0 hS hg hsz hall hv0 hbg
      go_wp2_with fail
      obtain ⟨W1, hW1⟩ : ∃ W1, W1 = wr.setCell ⟨g, i * 4, none⟩ (.string ⟨#[115, 112, 111, 105, 108, 116]⟩) := ⟨_, rfl⟩
      rw [← hW1]
      have hS1 : SpoilG W1 base g n ms := by rw [hW1]; exact HR.out.2.1.row _
      have hB1 : SplG base w W1 := by rw [hW1]; exact HR.out.1.setRow HR.out.2.1 _ _
      have HR1 := Lib.hid HR.out.2.2
      clear hW1 c0 f0 HR
      go_loopw [3] (fun kv wr => ∃ k : Nat, kv = .int .i64 (k : Int) ∧ k ≤ ms i ∧ SplG base w wr ∧ SpoilG wr base g n ms)
        (fun kv _ => ms i - natOf kv)
      case atStart => exact ⟨0, rfl, Nat.zero_le _, hB1, hS1⟩
      case round =>
        obtain ⟨k, rfl, hk, hBk, hSk⟩ := hrel
        obtain ⟨hbg, cur, hg, hsz, hall⟩ := hSk
        obtain ⟨fp, fc, d1, hd⟩ := hall i hlast
        have hSk : SpoilG wr base g n ms := ⟨hbg, cur, hg, hsz, hall⟩
        have c3 : wr.cell? ⟨g, i * 4 + 3, none⟩ = some (.slice fp (ms i) fc) := by simp [World.cell?, hg, d1]
        by_cases hk1 : k < ms i
        · have hki : (k : Int) < (ms i : Int) := by omega
          obtain ⟨g2, cur2, rfl, d2, d3, d4, d5⟩ := hd (by omega)
          obtain ⟨v1, hv1⟩ : ∃ v1, cur2[k]? = some v1 := ⟨_, Array.getElem?_eq_getElem (by omega)⟩
          have c4 : wr.cell? ⟨g2, k, none⟩ = some v1 := by simp [World.cell?, d2, hv1]
          have f4 : wr.frozen? ⟨g2, k, none⟩ = false := by simp [World.frozen?, d2]
          have HQ := Lib.hid (And.intro (hBk.setInt d2 d5 k (.int .i64 (-7))) (hSk.fail (k := k) d2 (.int .i64 (-7))))
          clear hBk hSk hg hsz hall d1 d2 d3 d5 hv1 hbg hB1 hS1 hd
          generalize ms i = mi at *
          go_wp2
          go_roundw
          case rel => exact ⟨k + 1, by simp, by omega, HQ.out.1, HQ.out.2⟩
          case measure => simp [natOf]; omega
        · have hki : ¬ (k : Int) < (ms i : Int) := by omega
          have HQ := Lib.hid (And.intro hBk hSk)
          clear hBk hSk hg hsz hall d1 hbg hB1 hS1 hd
          generalize ms i = mi at *
          go_wp2
          go_roundw
          case rel => exact ⟨i + 1, by simp, by omega, HQ.out.1, fun g' e _ => by injection e with e; injection e with e; subst e; exact HQ.out.2⟩
          case measure => simp [natOf]; omega
    · have hli : ¬ (i : Int) < (n : Int) := by omega
      have HB := Lib.hid hB
      clear hB hsp
      go_wp2
      go_end0
      exact ⟨rfl, HB.out⟩
end Go.Proofs.YthhcigmdocldnaaDoor
