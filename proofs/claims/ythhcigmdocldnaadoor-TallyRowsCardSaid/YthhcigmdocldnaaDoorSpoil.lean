/- The law's own function spoil: it writes only over what the rows own. -/
import Derived.Test.YthhcigmdocldnaaDoorLawE
import Derived.Test.YthhcigmdocldnaaDoorRefA
namespace Go.Proofs.YthhcigmdocldnaaDoor
open Go Go.RowKit Go.Shelf Go.Sort

/-- Rows that may be written over: their block, and the blocks of their lists. -/
def SpoilAt (W : World) (base g n : Nat) : Prop :=
  base ≤ g ∧ ∃ cur, W.heap[g]? = some (.cells cur 41 (0, 0)) ∧ n * 4 ≤ cur.size ∧ ∀ i, i < n → ∃ g2 cap2 cur2, cur[i * 4 + 3]? = some (.slice (some ⟨g2, 0, none⟩) 10 cap2) ∧ W.heap[g2]? = some (.cells cur2 3 (0, 0)) ∧ 10 ≤ cur2.size ∧ 10 ≤ cap2 ∧ base ≤ g2
theorem heap_setCell_self {W : World} {b off : Nat} {cs : Array Value} {t : TypeId} {f : Nat × Nat} {v : Value} (h : W.heap[b]? = some (.cells cs t f)) : (W.setCell ⟨b, off, none⟩ v).heap[b]? = some (.cells (cs.setIfInBounds off v) t f) := by
  simp [World.setCell, Array.getElem?_modify, h]
theorem SpoilAt.row {W : World} {base g n : Nat} (h : SpoilAt W base g n) {j : Nat} (v : Value) : SpoilAt (W.setCell ⟨g, j * 4, none⟩ v) base g n := by
  obtain ⟨hb, cur, hg, hs, hall⟩ := h
  refine ⟨hb, _, heap_setCell_self hg, by simpa using hs, fun i hi => ?_⟩
  obtain ⟨g2, cap2, cur2, h1, h2, h3, h4, h5⟩ := hall i hi
  have hne : g2 ≠ g := fun e => by subst e; have := hg.symm.trans h2; simp at this
  refine ⟨g2, cap2, cur2, ?_, (Below.heap_setCell W _ _ g2 hne).trans h2, h3, h4, h5⟩
  rw [Array.getElem?_setIfInBounds_ne (by omega)]
  exact h1
theorem SpoilAt.fail {W : World} {base g n : Nat} (h : SpoilAt W base g n) {g3 k : Nat} {cur3 : Array Value} (h3' : W.heap[g3]? = some (.cells cur3 3 (0, 0))) (v : Value) : SpoilAt (W.setCell ⟨g3, k, none⟩ v) base g n := by
  obtain ⟨hb, cur, hg, hs, hall⟩ := h
  have hne : g ≠ g3 := fun e => by subst e; have := hg.symm.trans h3'; simp at this
  refine ⟨hb, cur, (Below.heap_setCell W _ _ g hne).trans hg, hs, fun i hi => ?_⟩
  obtain ⟨g2, cap2, cur2, h1, h2, h3, h4, h5⟩ := hall i hi
  by_cases e : g2 = g3
  · subst e
    exact ⟨g2, cap2, _, h1, heap_setCell_self h2, by simpa using h3, h4, h5⟩
  · exact ⟨g2, cap2, cur2, h1, (Below.heap_setCell W _ _ g2 e).trans h2, h3, h4, h5⟩

/-- A world in which only blocks from base on, and no strings, were written. -/
structure Spl (base : Nat) (w w' : World) : Prop where
  below : Below base w w'
  str : ∀ (k : Nat) (cs : Array Value) (f : Nat × Nat), w.heap[k]? = some (Obj.cells cs 9 f) → w'.heap[k]? = some (Obj.cells cs 9 f)
theorem Spl.refl (base : Nat) (w : World) : Spl base w w := ⟨Below.refl _ _, fun _ _ _ h => h⟩
theorem Spl.setRow {base : Nat} {w wr : World} {g n : Nat} (h : Spl base w wr) (hS : SpoilAt wr base g n) (j : Nat) (u : Value) : Spl base w (wr.setCell ⟨g, j, none⟩ u) := by
  obtain ⟨hb, cur, hg, _⟩ := hS
  refine ⟨h.below.setCell (p := ⟨g, j, none⟩) hb u, fun k cs f hk => ?_⟩
  have h1 := h.str k cs f hk
  have hne : k ≠ g := fun e => by subst e; have := hg.symm.trans h1; simp at this
  exact (Below.heap_setCell wr _ _ k hne).trans h1
theorem Spl.setInt {base : Nat} {w wr : World} {g : Nat} {cur : Array Value} (h : Spl base w wr) (hg : wr.heap[g]? = some (.cells cur 3 (0, 0))) (hb : base ≤ g) (j : Nat) (u : Value) : Spl base w (wr.setCell ⟨g, j, none⟩ u) := by
  refine ⟨h.below.setCell (p := ⟨g, j, none⟩) hb u, fun k cs f hk => ?_⟩
  have h1 := h.str k cs f hk
  have hne : k ≠ g := fun e => by subst e; have := hg.symm.trans h1; simp at this
  exact (Below.heap_setCell wr _ _ k hne).trans h1

set_option maxRecDepth 100000 in
set_option maxHeartbeats 1000000 in
theorem spoil_any (w : World) (base : Nat) (p : Option Addr) (n c : Nat) (h : ∀ i, i < n → ∃ g, p = some ⟨g, 0, none⟩ ∧ n ≤ c ∧ SpoilAt w base g n) (hn : n ≤ 1000000) :
    Calls Tryd.prog 35 #[.slice p n c] w fun e w' => e = .returned (.tuple #[]) ∧ Spl base w w' := by
  have HH := Lib.hid h
  clear h
  go_enter Tryd.func35, Tryd.ntmps35
  go_wp2_with fail
  go_loopw [2] (fun iv wr => ∃ i : Nat, iv = .int .i64 (i : Int) ∧ i ≤ n ∧ Spl base w wr ∧ ∀ g, p = some ⟨g, 0, none⟩ → SpoilAt w base g n → SpoilAt wr base g n)
    (fun iv _ => n - natI iv)
  case atStart => exact ⟨0, rfl, Nat.zero_le _, Spl.refl _ _, fun _ _ h => h⟩
  case round =>
    obtain ⟨i, rfl, hi, hB, hsp⟩ := hrel
    by_cases hlast : i < n
    · have hli : (i : Int) < (n : Int) := by omega
      obtain ⟨g, rfl, hc, hS0⟩ := HH.out i hlast
      have hS := hsp g rfl hS0
      obtain ⟨hbg, cur, hg, hsz, hall⟩ := hS
      have hS : SpoilAt wr base g n := ⟨hbg, cur, hg, hsz, hall⟩
      obtain ⟨v0, hv0⟩ : ∃ v0, cur[i * 4]? = some v0 := ⟨_, Array.getElem?_eq_getElem (by omega)⟩
      have c0 : wr.cell? ⟨g, i * 4, none⟩ = some v0 := by simp [World.cell?, hg, hv0]
      have f0 : wr.frozen? ⟨g, i * 4, none⟩ = false := by simp [World.frozen?, hg]
      have HR := Lib.hid (And.intro hB (And.intro hS hbg))
      clear hB hsp hS0 hS hg hsz hall hv0 hbg
      go_wp2_with fail
      obtain ⟨W1, hW1⟩ : ∃ W1, W1 = wr.setCell ⟨g, i * 4, none⟩ (.string ⟨#[115, 112, 111, 105, 108, 116]⟩) := ⟨_, rfl⟩
      rw [← hW1]
      have hS1 : SpoilAt W1 base g n := by rw [hW1]; exact HR.out.2.1.row _
      have hB1 : Spl base w W1 := by rw [hW1]; exact HR.out.1.setRow HR.out.2.1 _ _
      have HR1 := Lib.hid HR.out.2.2
      clear hW1 c0 f0 HR
      go_loopw [3] (fun kv wr => ∃ k : Nat, kv = .int .i64 (k : Int) ∧ k ≤ 10 ∧ Spl base w wr ∧ SpoilAt wr base g n)
        (fun kv _ => 10 - natI kv)
      case atStart => exact ⟨0, rfl, Nat.zero_le _, hB1, hS1⟩
      case round =>
        obtain ⟨k, rfl, hk, hBk, hSk⟩ := hrel
        obtain ⟨hbg, cur, hg, hsz, hall⟩ := hSk
        obtain ⟨g2, cap2, cur2, d1, d2, d3, d4, d5⟩ := hall i hlast
        have hSk : SpoilAt wr base g n := ⟨hbg, cur, hg, hsz, hall⟩
        have c3 : wr.cell? ⟨g, i * 4 + 3, none⟩ = some (.slice (some ⟨g2, 0, none⟩) 10 cap2) := by simp [World.cell?, hg, d1]
        by_cases hk1 : k < 10
        · have hki : (k : Int) < 10 := by omega
          obtain ⟨v1, hv1⟩ : ∃ v1, cur2[k]? = some v1 := ⟨_, Array.getElem?_eq_getElem (by omega)⟩
          have c4 : wr.cell? ⟨g2, k, none⟩ = some v1 := by simp [World.cell?, d2, hv1]
          have f4 : wr.frozen? ⟨g2, k, none⟩ = false := by simp [World.frozen?, d2]
          have HQ := Lib.hid (And.intro (hBk.setInt d2 d5 k (.int .i64 (-7))) (hSk.fail (k := k) d2 (.int .i64 (-7))))
          clear hBk hSk hg hsz hall d1 d2 d3 d5 hv1 hbg hB1 hS1
          go_wp2
          go_roundw
          case rel => exact ⟨k + 1, by simp, by omega, HQ.out.1, HQ.out.2⟩
          case measure => simp [natI]; omega
        · have hki : ¬ (k : Int) < 10 := by omega
          have HQ := Lib.hid (And.intro hBk hSk)
          clear hBk hSk hg hsz hall d1 d2 d3 d5 hbg hB1 hS1
          go_wp2
          go_roundw
          case rel => exact ⟨i + 1, by simp, by omega, HQ.out.1, fun g' e _ => by injection e with e; injection e with e; subst e; exact HQ.out.2⟩
          case measure => simp [natI]; omega
    · have hli : ¬ (i : Int) < (n : Int) := by omega
      have HB := Lib.hid hB
      clear hB hsp
      go_wp2
      go_end0
      exact ⟨rfl, HB.out⟩

/-- A tally's rows may be written over. -/
theorem RowsT.spoil {W : World} {base : Nat} {v : Value} {xs : Ent} (h : RowsT 41 W base v xs) : ∃ p c, v = .slice p xs.length c ∧ ∀ i, i < xs.length → ∃ g, p = some ⟨g, 0, none⟩ ∧ xs.length ≤ c ∧ SpoilAt W base g xs.length := by
  obtain ⟨vs, hvl, hvf, hvo⟩ := h
  have hsh : ∃ p c, v = .slice p xs.length c := by
    rcases hvo.2 with ⟨rfl, h0⟩ | ⟨g, cap, cur, rfl, _⟩
    · exact ⟨none, 0, by rw [h0]⟩
    · exact ⟨_, _, rfl⟩
  obtain ⟨p, c, rfl⟩ := hsh
  refine ⟨p, c, rfl, fun i hi => ?_⟩
  rcases hvo.2 with ⟨_, h0⟩ | ⟨g, cap, cur, e, hbg, hgg, hcap, _, hcs, htk⟩
  · omega
  · injection e with e1 _ e3
    subst e1 e3
    refine ⟨g, rfl, hcap, hbg, cur, hgg, by omega, fun j hj => ?_⟩
    have hv : j < vs.length := by omega
    obtain ⟨g2, cap2, cur2, hu, hg2, hh2, hc2, _, hs2, _⟩ := hvf j hj hv
    have hzj : j < (xs.zip vs).length := by simp; omega
    have hcell := flat4 rowCells (fun _ => rfl) _ j 3 hzj (by omega)
    rw [List.getElem_zip, ← htk, List.getElem?_take_of_lt (by omega), Array.getElem?_toList] at hcell
    refine ⟨g2, cap2, cur2, hcell.trans ?_, hh2, by omega, hc2, hg2⟩
    rw [← hu]
    rfl
end Go.Proofs.YthhcigmdocldnaaDoor
