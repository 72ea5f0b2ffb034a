/- Rows of entries: their shape, where their elements lie. -/
import Derived.Test.YtojhledbfaninaaGreatCload
namespace Go.Proofs.YtojhledbfaninaaGreat
open Go Go.RowKit Go.Shelf Go.Sort

theorem pe_ne {x y : PE} (h : x.dom ≠ y.dom ∨ x.id ≠ y.id ∨ x.unt ≠ y.unt) : Ending.returned (.bool false) = .returned (.bool (decide (x = y))) := by
  rw [decide_eq_false (fun e => by subst e; simp at h)]
theorem pe_eq {x y : PE} (h1 : x.dom = y.dom) (h2 : x.id = y.id) (h3 : x.unt = y.unt) : decide (x = y) = (decide (x.mode = y.mode) && decide (x.age = y.age) && decide (x.mx = y.mx)) := by
  rw [Bool.eq_iff_iff]
  simp only [decide_eq_true_eq, Bool.and_eq_true]
  constructor
  · rintro rfl; exact ⟨⟨rfl, rfl⟩, rfl⟩
  · rintro ⟨⟨a, b⟩, c⟩; exact PE.eq h1 h2 a c b h3
theorem RowE.sh {W : World} {v : Value} {zs : List EM} (h : RowE W v zs) : ∃ p c, v = .slice p zs.length c := by
  rcases h with ⟨rfl, p, c, rfl⟩ | ⟨_, b, o, c, rfl, _⟩
  · exact ⟨p, c, rfl⟩
  · exact ⟨_, c, rfl⟩
theorem RowE.at {W : World} {p : Option Addr} {n c : Nat} {zs : List EM} (h : RowE W (.slice p n c) zs) (i : Nat) (hi : i < zs.length) :
    ∃ b o, p = some ⟨b, o, none⟩ ∧ b < W.heap.size ∧ ∀ (j : Nat) (hj : j < zs.length), W.cell? ⟨b, o + j * 6, none⟩ = some (.string ⟨zs[j].1.dom.toArray⟩) ∧ W.cell? ⟨b, o + j * 6 + 1, none⟩ = some (.string ⟨zs[j].1.id.toArray⟩) ∧ W.cell? ⟨b, o + j * 6 + 2, none⟩ = some (.int .u8 (zs[j].1.mode : Int)) ∧
      W.cell? ⟨b, o + j * 6 + 3, none⟩ = some (.slice zs[j].2.1 zs[j].2.2.1 zs[j].2.2.2) ∧ W.cell? ⟨b, o + j * 6 + 4, none⟩ = some (.int .i64 zs[j].1.age) ∧ W.cell? ⟨b, o + j * 6 + 5, none⟩ = some (.int .i64 zs[j].1.unt) := by
  rcases h with ⟨rfl, _⟩ | ⟨_, b, o, c', e, hcc⟩
  · simp at hi
  · injection e with e1 _ _
    refine ⟨b, o, e1, cell_lt (hcc i hi 0 _ rfl), fun j hj => ⟨hcc j hj 0 _ rfl, hcc j hj 1 _ rfl, hcc j hj 2 _ rfl, hcc j hj 3 _ rfl, hcc j hj 4 _ rfl, hcc j hj 5 _ rfl⟩⟩
theorem six_below {W W' : World} {b : Nat} (hb : Below W.heap.size W W') (hlt : b < W.heap.size) {k : Nat} {v : Value} (h : W.cell? ⟨b, k, none⟩ = some v) : W'.cell? ⟨b, k, none⟩ = some v := (hb.cell (p := ⟨b, k, none⟩) hlt).trans h
end Go.Proofs.YtojhledbfaninaaGreat
