/- The document's own tally: its state, New, Copy, many; the program's Clear. -/
import Derived.Test.YthhcigmdocldnaaDoorRefE
namespace Go.Proofs.YthhcigmdocldnaaDoor
open Go Go.RowKit Go.Shelf Go.Sort

/-- The document's tally behind a pointer to block r: the results that it counted. -/
def RefAt (W : World) (base r : Nat) (names : Int) (acc : List Res) : Prop :=
  ∃ v, W.heap[r]? = some (.cells #[.int .i64 names, v] 53 (0, 0)) ∧ W.ownsRow base 56 3 v acc.length (acc.flatMap resCells)
theorem RefAt.lt {W : World} {base r : Nat} {names : Int} {acc : List Res} (h : RefAt W base r names acc) : r < W.heap.size := by
  obtain ⟨v, h, _⟩ := h
  exact (Array.getElem?_eq_some_iff.1 h).1
theorem RefAt.below {W W' : World} {base r : Nat} {names : Int} {acc : List Res} (h : RefAt W base r names acc) (hb : Below W.heap.size W W') : RefAt W' base r names acc := by
  have hl := h.lt
  obtain ⟨v, h, ho⟩ := h
  exact ⟨v, (hb.block r hl).trans h, own_below ho hb⟩

set_option maxRecDepth 100000 in
theorem refNew_good (n : Int) (w : World) (base : Nat) (h1 : 1 ≤ n) (h2 : n ≤ 8) :
    Calls Tryd.prog 19 #[.int .i64 n] w fun e w' => e = .returned (.tuple #[.pointer (some ⟨w.heap.size, 0, none⟩), .int .i64 0]) ∧ RefAt w' base w.heap.size n [] ∧ Below w.heap.size w w' := by
  have e1 : ¬ n < 1 := by omega
  have e2 : ¬ 8 < n := by omega
  go_enter Tryd.func19, Tryd.ntmps19
  go_wp2
  refine bodyPost_ret (v := .tuple #[.pointer (some ⟨w.heap.size, 0, none⟩), .int .i64 0]) (by simp [results, Tryd.results19, go_sem]) rfl ⟨rfl, ⟨.slice none 0 0, ha_eq rfl, rfl, .inl ⟨rfl, rfl⟩⟩, (Below.refl _ w).alloc (Nat.le_refl _) _⟩
set_option maxRecDepth 100000 in
theorem refNew_bad (n : Int) (w : World) (h : n < 1 ∨ 8 < n) :
    Calls Tryd.prog 19 #[.int .i64 n] w fun e w' => e = .returned (.tuple #[.pointer none, .int .i64 1]) ∧ w = w' := by
  by_cases h1 : n < 1
  · go_enter Tryd.func19, Tryd.ntmps19
    go_wp2
    go_ret2
    exact ⟨rfl, rfl⟩
  · have h2 : 8 < n := by omega
    go_enter Tryd.func19, Tryd.ntmps19
    go_wp2
    go_ret2
    exact ⟨rfl, rfl⟩
set_option maxRecDepth 100000 in
theorem refCopy_any (w : World) (base r : Nat) (names : Int) (acc : List Res) (h : RefAt w base r names acc) :
    Calls Tryd.prog 22 #[.pointer (some ⟨r, 0, none⟩)] w fun e w' => e = .returned (.pointer (some ⟨w.heap.size, 0, none⟩)) ∧ RefAt w' base w.heap.size names acc ∧ Below w.heap.size w w' := by
  obtain ⟨v, hr, ho⟩ := h
  have hsh : ∃ p c, v = .slice p acc.length c := by
    rcases ho.2 with ⟨rfl, h0⟩ | ⟨g, cap, cur, rfl, _⟩
    · exact ⟨none, 0, by rw [h0]⟩
    · exact ⟨_, _, rfl⟩
  obtain ⟨p, c, rfl⟩ := hsh
  have x0 : w.cell? ⟨r, 0, none⟩ = some (.int .i64 names) := by simp [World.cell?, hr]
  have x1 : w.cell? ⟨r, 1, none⟩ = some (.slice p acc.length c) := by simp [World.cell?, hr]
  have HO := Lib.hid ho
  clear ho hr
  go_enter Tryd.func22, Tryd.ntmps22
  go_wp2
  refine bodyPost_ret (v := .pointer (some ⟨w.heap.size, 0, none⟩)) (by simp [results, Tryd.results22, go_sem]) rfl ⟨rfl, ⟨.slice p acc.length c, ha_eq rfl, own_below HO.out ((Below.refl _ w).alloc (Nat.le_refl _) _)⟩, (Below.refl _ w).alloc (Nat.le_refl _) _⟩
end Go.Proofs.YthhcigmdocldnaaDoor
